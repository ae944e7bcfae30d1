/-
  A coder's own small words: Weight, full; the writer's num and text. Condition: the fields' texts' lengths; the bound on the bytes.
-/
import Derived.Test.YtkbbkamnmdeagaaHeadRead
import Derived.Test.YtkbbkamnmdeagaaTable2
namespace Go.Proofs.Ytkbbkamnmdeagaa
open Go.RowKit
attribute [local go_sem ↓] Go.wp_at_zero Go.wp_at_succ

set_option maxRecDepth 100000 in
set_option maxHeartbeats 4000000 in
theorem weight_any (l : List Fld) (hf : ∀ f ∈ l, fOk f) (hw : wt l ≤ 9000000000000000000) (A : Option Addr) (n c : Nat) (hn : n = l.length) (w : World) (hr : Reads w w.heap.size 2 A l.length (fvs l)) :
    Calls Try.prog 41 #[.slice A n c] w fun e w' => e = .returned (.int .i64 ((wt l : Nat) : Int)) ∧ Below w.heap.size w w' := by
  subst hn
  have HR := Lib.hid hr
  have HF := Lib.hid hf
  have hl := wt_len l
  clear hr hf
  go_enter Try.func41, Try.ntmps41
  go_wp2
  go_loopw [3, 8] (fun x i wr => ∃ k : Nat, k ≤ l.length ∧ i = .int .i64 (k : Int) ∧ x = .int .i64 ((wt (l.take k) : Nat) : Int) ∧ Hid (Below w.heap.size w wr)) (fun _ i _ => l.length - (intOf i).toNat)
  case atStart => exact ⟨0, Nat.zero_le _, rfl, rfl, Below.refl _ _⟩
  case round =>
    obtain ⟨k, hk, rfl, rfl, HB⟩ := hrel
    have hle := wt_take_le l k
    by_cases hlt : k < l.length
    · have hs := wt_take_succ l k hlt
      have hle2 := wt_take_le l (k + 1)
      obtain ⟨b, off, rfl, hbB, hcl⟩ := reads_fld (HR.out.below HB.out) (by omega)
      obtain ⟨e0, e1⟩ := hcl k hlt
      have hbr := Nat.lt_of_lt_of_le hbB HB.out.size
      have hfk := Lib.hid (HF.out l[k] (List.getElem_mem hlt))
      have HS := Lib.hid hs
      clear hcl hs
      generalize l[k] = f at *
      generalize wt (l.take k) = W at *
      have hW : fsz f + W ≤ 9000000000000000000 := by have := HS.out; omega
      have HB2 := Lib.hid (HB.out.alloc HB.out.size (.cells #[.string ⟨f.1.toArray⟩, .string ⟨f.2.toArray⟩] 40))
      have HB2s := HB2.out.size
      go_wp2_with (go_at_call 27; refine (size_any f hfk.out _).mono ?_; rintro e w1 ⟨rfl, hb1⟩)
      go_roundw
      case rel => exact ⟨k + 1, by omega, by go_num, by rw [HS.out]; go_num, HB2.out.trans (hb1.mono HB2s)⟩
      case measure => simp [intOf]; omega
    · have hke : l.take k = l := List.take_of_length_le (by omega)
      rw [hke] at hle ⊢
      go_wp2
      go_ret
      exact ⟨rfl, HB.out⟩

theorem wt_bound (l : List Fld) (hf : ∀ f ∈ l, fOk f) : wt l ≤ l.length * 281474976710688 := by
  induction l with
  | nil => exact Nat.zero_le _
  | cons f r ih =>
    have h1 := ih fun x hx => hf x (List.mem_cons_of_mem _ hx)
    obtain ⟨h2, h3⟩ := hf f List.mem_cons_self
    rw [wt_cons, List.length_cons, Nat.succ_mul]
    unfold fsz
    generalize r.length * 281474976710688 = M at *
    omega
set_option maxRecDepth 100000 in
set_option maxHeartbeats 1000000 in
theorem full_any (l : List Fld) (hf : ∀ f ∈ l, fOk f) (hm : l.length ≤ 140737488355328) (A : Option Addr) (n c : Nat) (hn : n = l.length) (w : World) (hr : Reads w w.heap.size 2 A l.length (fvs l)) :
    Calls Try.prog 32 #[.slice A n c] w fun e w' => e = .returned (.bool (tooMuch l)) ∧ Below w.heap.size w w' := by
  subst hn
  by_cases h40 : 40 < l.length
  · have e : tooMuch l = true := by simp [tooMuch, h40]
    rw [e]
    have hi : (40 : Int) < ((l.length : Nat) : Int) := by omega
    clear e hr
    go_enter Try.func32, Try.ntmps32
    go_wp2
    go_ret
    exact ⟨rfl, Below.refl _ _⟩
  · have hd : decide ((40 : Int) < ((l.length : Nat) : Int)) = false := by simp; omega
    have hwl : wt l ≤ 40 * 281474976710688 := by
      have h := wt_bound l hf
      have h3 : l.length * 281474976710688 ≤ 40 * 281474976710688 := Nat.mul_le_mul_right _ (by omega)
      exact Nat.le_trans h h3
    by_cases h2 : 2000 < wt l
    · have e : tooMuch l = true := by simp [tooMuch, h2]
      rw [e]
      have HI := Lib.hid (show (2000 : Int) < ((wt l : Nat) : Int) by omega)
      clear e
      go_enter Try.func32, Try.ntmps32
      go_wp2_with fail
      refine (weight_any l hf (by omega) A _ _ rfl w hr).mono ?_
      rintro e w1 ⟨rfl, hb⟩
      have hi := HI.out
      go_wp2
      go_ret
      exact ⟨rfl, hb⟩
    · have e : tooMuch l = false := by simp [tooMuch, h40, h2]
      rw [e]
      have HI := Lib.hid (show decide ((2000 : Int) < ((wt l : Nat) : Int)) = false by simp; omega)
      clear e
      go_enter Try.func32, Try.ntmps32
      go_wp2_with fail
      refine (weight_any l hf (by omega) A _ _ rfl w hr).mono ?_
      rintro e w1 ⟨rfl, hb⟩
      have hi := HI.out
      go_wp2
      go_ret
      exact ⟨rfl, hb⟩

/-- A writer: its block, the row that it owns; which blocks are its own. -/
structure Wr (w : World) (g : Nat) (v : Value) (l : List UInt8) : Prop where
  blk : Blk w g 76 #[v]
  own : w.ownsRow 0 5 1 v l.length (bs l)
def wOwn (g : Nat) (v : Value) (k : Nat) : Prop := k = g ∨ v.ownBlock = some k
theorem Wr.lt {w : World} {g : Nat} {v : Value} {l : List UInt8} (h : Wr w g v l) : ∀ k, wOwn g v k → k < w.heap.size := by
  rintro k (rfl | hk)
  · exact h.blk.lt
  · exact (h.own.lt k hk).2
theorem ownRow_keep {S : Nat → Prop} {w w' : World} {B size n : Nat} {e : TypeId} {v : Value} {xs : List Value} (h : w.ownsRow B e size v n xs) (hk : Keep S w w') (hS : ∀ k, v.ownBlock = some k → ¬ S k) : w'.ownsRow B e size v n xs := by
  refine ⟨h.1, ?_⟩
  rcases h.2 with h0 | ⟨g, cap, cur, rfl, hB, hh, hr⟩
  · exact .inl h0
  · exact .inr ⟨g, cap, cur, rfl, hB, (hk.block g (Blk.lt (t := e) (cs := cur) hh) (hS g rfl)).trans hh, hr⟩
theorem Wr.keep {S : Nat → Prop} {w w' : World} {g : Nat} {v : Value} {l : List UInt8} (h : Wr w g v l) (hk : Keep S w w') (hS : ∀ k, wOwn g v k → ¬ S k) : Wr w' g v l :=
  ⟨h.blk.keep hk (hS g (.inl rfl)), ownRow_keep h.own hk fun k hk => hS k (.inr hk)⟩
/-- What a piece that is written leaves of a writer. -/
def Wrote (w w' : World) (g : Nat) (v : Value) (l : List UInt8) : Prop := ∃ v', Wr w' g v' l ∧ Keep (wOwn g v) w w' ∧ ∀ k, wOwn g v' k → wOwn g v k ∨ w.heap.size ≤ k
theorem own_behindW {w w' : World} {base : Nat} {e : TypeId} {size n : Nat} {v : Value} {xs : List Value} (h : w.ownsRow base e size v n xs) (hb : Below w.heap.size w w') : w'.ownsRow base e size v n xs :=
  ownRow_keep h (Keep.of_below (S := fun _ => False) hb) fun _ _ h => h
theorem own_slice {w : World} {B size n : Nat} {e : TypeId} {v : Value} {xs : List Value} (h : w.ownsRow B e size v n xs) : ∃ A c, v = .slice A n c := by
  rcases h.2 with ⟨rfl, rfl⟩ | ⟨g, cap, cur, rfl, _⟩
  · exact ⟨_, _, rfl⟩
  · exact ⟨_, _, rfl⟩
theorem wrote_end {w w1 w2 : World} {g : Nat} {v v2 : Value} {l x : List UInt8} (h : Wr w g v l) (hb1 : Below w.heap.size w w1) (hown2 : w2.ownsRow 0 5 1 v2 (l.length + x.length) (bs l ++ bs x)) (hg2 : w1.grownBy w2 v.ownBlock)
    (hv : v2.ownBlock = v.ownBlock ∨ v2.ownBlock = some w1.heap.size) : Wrote w (w2.setCell ⟨g, 0, none⟩ v2) g v (l ++ x) ∧ w2.cell? ⟨g, 0, none⟩ = some v ∧ w2.frozen? ⟨g, 0, none⟩ = false ∧ g < w2.heap.size := by
  have hbk1 := h.blk.below hb1 h.blk.lt
  have hne : v.ownBlock ≠ some g := own_blk_ne h.own h.blk (by decide)
  have hbk2 : Blk w2 g 76 #[v] := hbk1.grown hg2 (fun e => hne e.symm)
  have hne2 : v2.ownBlock ≠ some g := by
    rcases hv with h1 | h1
    · rw [h1]; exact hne
    · rw [h1]
      intro e
      injection e with e
      have := hbk1.lt
      omega
  have k1 : Keep (wOwn g v) w w2 := (Keep.of_below (S := wOwn g v) hb1).grown hg2 fun k hk => .inl (.inr hk)
  refine ⟨⟨v2, ⟨?_, ?_⟩, k1.setCell (.inl (.inl rfl)) _, ?_⟩, hbk2.cell 0, hbk2.frozen 0, hbk2.lt⟩
  · have := hbk2.set_ 0 v2
    simpa using this
  · have k2 : Keep (fun k => k = g) w2 (w2.setCell ⟨g, 0, none⟩ v2) := (Keep.refl (fun k => k = g) w2).setCell (p := ⟨g, 0, none⟩) (.inl rfl) v2
    rw [List.length_append, bs_append]
    exact ownRow_keep hown2 k2 fun k hk he => hne2 (he ▸ hk)
  · rintro k (rfl | hk)
    · exact .inl (.inl rfl)
    · rcases hv with h1 | h1
      · exact .inl (.inr (by rw [← h1]; exact hk))
      · rw [h1] at hk
        cases hk
        exact .inr hb1.size

set_option maxRecDepth 100000 in
set_option maxHeartbeats 2000000 in
theorem wnum_any {w : World} {g : Nat} {v : Value} {l : List UInt8} (h : Wr w g v l) (n bits first : Int) (hl : l.length + (putL n bits first).length ≤ 140737488355328) :
    Calls Try.prog 33 #[.pointer (some ⟨g, 0, none⟩), .int .i64 n, .int .i64 bits, .int .i64 first] w fun e w' => e = .returned (.tuple #[]) ∧ Wrote w w' g v (l ++ putL n bits first) := by
  obtain ⟨i0, hi, hz0, hz1, hz2⟩ := info_parts u8_info
  have HI := Lib.hid hi
  have HZ0 := Lib.hid hz0
  have HZ1 := Lib.hid hz1
  have HZ2 := Lib.hid hz2
  have H := Lib.hid h
  clear hi hz0 hz1 hz2 h
  go_enter Try.func33, Try.ntmps33
  go_wp2_with fail
  refine (wput_any n bits first w).mono ?_
  rintro e w1 ⟨x, rfl, hox, hb1⟩
  obtain ⟨A, c, rfl, hg⟩ := gave_of_own hox hb1
  clear hox hb1
  have hbk := H.out.blk.below hg.2.2 H.out.blk.lt
  have c0 := hbk.cell 0
  have f0 := hbk.frozen 0
  have hlt := hbk.lt
  have HO1 := Lib.hid (own_behindW H.out.own hg.2.2)
  have HG := Lib.hid hg
  clear hg hbk
  go_wp2_with (at_builtin; refine wpList_append_any _ rfl _ _ 26 rfl 0 5 i0 (.int .u8 0) 1 1 Try.underlying26 HI.out HZ0.out HZ1.out HZ2.out rfl (by decide) _ _ _ rfl HO1.out w1.heap.size A (putL n bits first).length c (bs (putL n bits first)) rfl HG.out.2.1 (bs_one _) (by unfold maxLen; omega) (by omega) (Nat.zero_le _) ?_; intro v2 w2 hown2 hg2 hv2; obtain ⟨A2, c2, rfl⟩ := own_slice hown2; have hend := wrote_end H.out HG.out.2.2 hown2 hg2 hv2; have c0 := hend.2.1; have f0 := hend.2.2.1; have hlt := hend.2.2.2; have HEND := Lib.hid hend.1; clear hend)
  go_end0
  exact ⟨rfl, HEND.out⟩

set_option maxRecDepth 100000 in
set_option maxHeartbeats 2000000 in
theorem wtext_any {w : World} {g : Nat} {v : Value} {l : List UInt8} (h : Wr w g v l) (s : List UInt8) (hs : s.length ≤ 140737488355328) (hl : l.length + (txtL s).length ≤ 140737488355328) :
    Calls Try.prog 34 #[.pointer (some ⟨g, 0, none⟩), .string ⟨s.toArray⟩] w fun e w' => e = .returned (.tuple #[]) ∧ Wrote w w' g v (l ++ txtL s) := by
  obtain ⟨i0, hi, hz0, hz1, hz2⟩ := info_parts u8_info
  have HI := Lib.hid hi
  have HZ0 := Lib.hid hz0
  have HZ1 := Lib.hid hz1
  have HZ2 := Lib.hid hz2
  have H := Lib.hid h
  clear hi hz0 hz1 hz2 h
  go_enter Try.func34, Try.ntmps34
  go_wp2_with fail
  refine (htext_gave s w hs).mono ?_
  rintro e w1 ⟨A, c, rfl, hg⟩
  have hbk := H.out.blk.below hg.2.2 H.out.blk.lt
  have c0 := hbk.cell 0
  have f0 := hbk.frozen 0
  have hlt := hbk.lt
  have HO1 := Lib.hid (own_behindW H.out.own hg.2.2)
  have HG := Lib.hid hg
  clear hg hbk
  go_wp2_with (at_builtin; refine wpList_append_any _ rfl _ _ 26 rfl 0 5 i0 (.int .u8 0) 1 1 Try.underlying26 HI.out HZ0.out HZ1.out HZ2.out rfl (by decide) _ _ _ rfl HO1.out w1.heap.size A (txtL s).length c (bs (txtL s)) rfl HG.out.2.1 (bs_one _) (by unfold maxLen; omega) (by omega) (Nat.zero_le _) ?_; intro v2 w2 hown2 hg2 hv2; obtain ⟨A2, c2, rfl⟩ := own_slice hown2; have hend := wrote_end H.out HG.out.2.2 hown2 hg2 hv2; have c0 := hend.2.1; have f0 := hend.2.2.1; have hlt := hend.2.2.2; have HEND := Lib.hid hend.1; clear hend)
  go_end0
  exact ⟨rfl, HEND.out⟩
end Go.Proofs.Ytkbbkamnmdeagaa
