/-
  A coder's own small words: Weight, full; the writer's num and text. Condition: the fields' texts' lengths; the bound on the bytes.
  A coder behind a pointer: its words; head.New, Resize. Condition: none but what the words say.
-/
import Derived.Test.YtkbbkamnmdeagaaDoorMHeadPlays07
import Derived.Test.YtkbbkamnmdeagaaDoorMHeadPlays08
namespace Go.Proofs.YtkbbkamnmdeagaaDoor
open Go.RowKit
attribute [local go_sem ↓] Go.wp_at_zero Go.wp_at_succ

set_option maxRecDepth 100000 in
set_option maxHeartbeats 4000000 in
theorem weight_any (l : List Fld) (hf : ∀ f ∈ l, fOk f) (hw : wt l ≤ 9000000000000000000) (A : Option Addr) (n c : Nat) (hn : n = l.length) (w : World) (hr : Reads w w.heap.size 2 A l.length (fvs l)) :
    Calls Tryd.prog 63 #[.slice A n c] w fun e w' => e = .returned (.int .i64 ((wt l : Nat) : Int)) ∧ Below w.heap.size w w' := by
  subst hn
  have HR := Lib.hid hr
  have HF := Lib.hid hf
  have hl := wt_len l
  clear hr hf
  go_enter Tryd.func63, Tryd.ntmps63
  go_wp2
  go_loopw [3, 8] (fun x i wr => ∃ k : Nat, k ≤ l.length ∧ i = .int .i64 (k : Int) ∧ x = .int .i64 ((wt (l.take k) : Nat) : Int) ∧ Hid (Below w.heap.size w wr)) (fun _ i _ => l.length - (intOf i).toNat)
  case atStart => exact ⟨0, Nat.zero_le _, rfl, rfl, Below.refl _ _⟩
  case round =>
    obtain ⟨k, hk, rfl, rfl, HB⟩ := hrel
    have hle := wt_take_le l k
    by_cases hlt : k < l.length
    · have hs := wt_take_succ l k hlt
      have hle2 := wt_take_le l (k + 1)
      obtain ⟨b, off, rfl, hbB, hcl⟩ := reads_fld (HR.out.below HB.out) (by omega)
      obtain ⟨e0, e1⟩ := hcl k hlt
      have hbr := Nat.lt_of_lt_of_le hbB HB.out.size
      have hfk := Lib.hid (HF.out l[k] (List.getElem_mem hlt))
      have HS := Lib.hid hs
      clear hcl hs
      generalize l[k] = f at *
      generalize wt (l.take k) = W at *
      have hW : fsz f + W ≤ 9000000000000000000 := by have := HS.out; omega
      have HB2 := Lib.hid (HB.out.alloc HB.out.size (.cells #[.string ⟨f.1.toArray⟩, .string ⟨f.2.toArray⟩] 86))
      have HB2s := HB2.out.size
      go_wp2_with (go_at_call 83; refine (size_any f hfk.out _).mono ?_; rintro e w1 ⟨rfl, hb1⟩)
      go_roundw
      case rel => exact ⟨k + 1, by omega, by go_num, by rw [HS.out]; go_num, HB2.out.trans (hb1.mono HB2s)⟩
      case measure => simp [intOf]; omega
    · have hke : l.take k = l := List.take_of_length_le (by omega)
      rw [hke] at hle ⊢
      go_wp2
      go_ret
      exact ⟨rfl, HB.out⟩

theorem wt_bound (l : List Fld) (hf : ∀ f ∈ l, fOk f) : wt l ≤ l.length * 281474976710688 := by
  induction l with
  | nil => exact Nat.zero_le _
  | cons f r ih =>
    have h1 := ih fun x hx => hf x (List.mem_cons_of_mem _ hx)
    obtain ⟨h2, h3⟩ := hf f List.mem_cons_self
    rw [wt_cons, List.length_cons, Nat.succ_mul]
    unfold fsz
    generalize r.length * 281474976710688 = M at *
    omega
set_option maxRecDepth 100000 in
set_option maxHeartbeats 1000000 in
theorem full_any (l : List Fld) (hf : ∀ f ∈ l, fOk f) (hm : l.length ≤ 140737488355328) (A : Option Addr) (n c : Nat) (hn : n = l.length) (w : World) (hr : Reads w w.heap.size 2 A l.length (fvs l)) :
    Calls Tryd.prog 90 #[.slice A n c] w fun e w' => e = .returned (.bool (tooMuch l)) ∧ Below w.heap.size w w' := by
  subst hn
  by_cases h40 : 40 < l.length
  · have e : tooMuch l = true := by simp [tooMuch, h40]
    rw [e]
    have hi : (40 : Int) < ((l.length : Nat) : Int) := by omega
    clear e hr
    go_enter Tryd.func90, Tryd.ntmps90
    go_wp2
    go_ret
    exact ⟨rfl, Below.refl _ _⟩
  · have hd : decide ((40 : Int) < ((l.length : Nat) : Int)) = false := by simp; omega
    have hwl : wt l ≤ 40 * 281474976710688 := by
      have h := wt_bound l hf
      have h3 : l.length * 281474976710688 ≤ 40 * 281474976710688 := Nat.mul_le_mul_right _ (by omega)
      exact Nat.le_trans h h3
    by_cases h2 : 2000 < wt l
    · have e : tooMuch l = true := by simp [tooMuch, h2]
      rw [e]
      have HI := Lib.hid (show (2000 : Int) < ((wt l : Nat) : Int) by omega)
      clear e
      go_enter Tryd.func90, Tryd.ntmps90
      go_wp2_with fail
      refine (weight_any l hf (by omega) A _ _ rfl w hr).mono ?_
      rintro e w1 ⟨rfl, hb⟩
      have hi := HI.out
      go_wp2
      go_ret
      exact ⟨rfl, hb⟩
    · have e : tooMuch l = false := by simp [tooMuch, h40, h2]
      rw [e]
      have HI := Lib.hid (show decide ((2000 : Int) < ((wt l : Nat) : Int)) = false by simp; omega)
      clear e
      go_enter Tryd.func90, Tryd.ntmps90
      go_wp2_with fail
      refine (weight_any l hf (by omega) A _ _ rfl w hr).mono ?_
      rintro e w1 ⟨rfl, hb⟩
      have hi := HI.out
      go_wp2
      go_ret
      exact ⟨rfl, hb⟩

/-- A writer: its block, the row that it owns; which blocks are its own. -/
structure Wr (w : World) (g : Nat) (v : Value) (l : List UInt8) : Prop where
  blk : Blk w g 139 #[v]
  own : w.ownsRow 0 5 1 v l.length (bs l)
def wOwn (g : Nat) (v : Value) (k : Nat) : Prop := k = g ∨ v.ownBlock = some k
theorem Wr.lt {w : World} {g : Nat} {v : Value} {l : List UInt8} (h : Wr w g v l) : ∀ k, wOwn g v k → k < w.heap.size := by
  rintro k (rfl | hk)
  · exact h.blk.lt
  · exact (h.own.lt k hk).2
theorem ownRow_keep {S : Nat → Prop} {w w' : World} {B size n : Nat} {e : TypeId} {v : Value} {xs : List Value} (h : w.ownsRow B e size v n xs) (hk : Keep S w w') (hS : ∀ k, v.ownBlock = some k → ¬ S k) : w'.ownsRow B e size v n xs := by
  refine ⟨h.1, ?_⟩
  rcases h.2 with h0 | ⟨g, cap, cur, rfl, hB, hh, hr⟩
  · exact .inl h0
  · exact .inr ⟨g, cap, cur, rfl, hB, (hk.block g (Blk.lt (t := e) (cs := cur) hh) (hS g rfl)).trans hh, hr⟩
theorem Wr.keep {S : Nat → Prop} {w w' : World} {g : Nat} {v : Value} {l : List UInt8} (h : Wr w g v l) (hk : Keep S w w') (hS : ∀ k, wOwn g v k → ¬ S k) : Wr w' g v l :=
  ⟨h.blk.keep hk (hS g (.inl rfl)), ownRow_keep h.own hk fun k hk => hS k (.inr hk)⟩
/-- What a piece that is written leaves of a writer. -/
def Wrote (w w' : World) (g : Nat) (v : Value) (l : List UInt8) : Prop := ∃ v', Wr w' g v' l ∧ Keep (wOwn g v) w w' ∧ ∀ k, wOwn g v' k → wOwn g v k ∨ w.heap.size ≤ k
theorem own_behindW {w w' : World} {base : Nat} {e : TypeId} {size n : Nat} {v : Value} {xs : List Value} (h : w.ownsRow base e size v n xs) (hb : Below w.heap.size w w') : w'.ownsRow base e size v n xs :=
  ownRow_keep h (Keep.of_below (S := fun _ => False) hb) fun _ _ h => h
theorem own_slice {w : World} {B size n : Nat} {e : TypeId} {v : Value} {xs : List Value} (h : w.ownsRow B e size v n xs) : ∃ A c, v = .slice A n c := by
  rcases h.2 with ⟨rfl, rfl⟩ | ⟨g, cap, cur, rfl, _⟩
  · exact ⟨_, _, rfl⟩
  · exact ⟨_, _, rfl⟩
theorem wrote_end {w w1 w2 : World} {g : Nat} {v v2 : Value} {l x : List UInt8} (h : Wr w g v l) (hb1 : Below w.heap.size w w1) (hown2 : w2.ownsRow 0 5 1 v2 (l.length + x.length) (bs l ++ bs x)) (hg2 : w1.grownBy w2 v.ownBlock)
    (hv : v2.ownBlock = v.ownBlock ∨ v2.ownBlock = some w1.heap.size) : Wrote w (w2.setCell ⟨g, 0, none⟩ v2) g v (l ++ x) ∧ w2.cell? ⟨g, 0, none⟩ = some v ∧ w2.frozen? ⟨g, 0, none⟩ = false ∧ g < w2.heap.size := by
  have hbk1 := h.blk.below hb1 h.blk.lt
  have hne : v.ownBlock ≠ some g := own_blk_ne h.own h.blk (by decide)
  have hbk2 : Blk w2 g 139 #[v] := hbk1.grown hg2 (fun e => hne e.symm)
  have hne2 : v2.ownBlock ≠ some g := by
    rcases hv with h1 | h1
    · rw [h1]; exact hne
    · rw [h1]
      intro e
      injection e with e
      have := hbk1.lt
      omega
  have k1 : Keep (wOwn g v) w w2 := (Keep.of_below (S := wOwn g v) hb1).grown hg2 fun k hk => .inl (.inr hk)
  refine ⟨⟨v2, ⟨?_, ?_⟩, k1.setCell (.inl (.inl rfl)) _, ?_⟩, hbk2.cell 0, hbk2.frozen 0, hbk2.lt⟩
  · have := hbk2.set_ 0 v2
    simpa using this
  · have k2 : Keep (fun k => k = g) w2 (w2.setCell ⟨g, 0, none⟩ v2) := (Keep.refl (fun k => k = g) w2).setCell (p := ⟨g, 0, none⟩) (.inl rfl) v2
    rw [List.length_append, bs_append]
    exact ownRow_keep hown2 k2 fun k hk he => hne2 (he ▸ hk)
  · rintro k (rfl | hk)
    · exact .inl (.inl rfl)
    · rcases hv with h1 | h1
      · exact .inl (.inr (by rw [← h1]; exact hk))
      · rw [h1] at hk
        cases hk
        exact .inr hb1.size

set_option maxRecDepth 100000 in
set_option maxHeartbeats 2000000 in
theorem wnum_any {w : World} {g : Nat} {v : Value} {l : List UInt8} (h : Wr w g v l) (n bits first : Int) (hl : l.length + (putL n bits first).length ≤ 140737488355328) :
    Calls Tryd.prog 91 #[.pointer (some ⟨g, 0, none⟩), .int .i64 n, .int .i64 bits, .int .i64 first] w fun e w' => e = .returned (.tuple #[]) ∧ Wrote w w' g v (l ++ putL n bits first) := by
  obtain ⟨i0, hi, hz0, hz1, hz2⟩ := info_parts u8_info
  have HI := Lib.hid hi
  have HZ0 := Lib.hid hz0
  have HZ1 := Lib.hid hz1
  have HZ2 := Lib.hid hz2
  have H := Lib.hid h
  clear hi hz0 hz1 hz2 h
  go_enter Tryd.func91, Tryd.ntmps91
  go_wp2_with fail
  refine (wput_any n bits first w).mono ?_
  rintro e w1 ⟨x, rfl, hox, hb1⟩
  obtain ⟨A, c, rfl, hg⟩ := gave_of_own hox hb1
  clear hox hb1
  have hbk := H.out.blk.below hg.2.2 H.out.blk.lt
  have c0 := hbk.cell 0
  have f0 := hbk.frozen 0
  have hlt := hbk.lt
  have HO1 := Lib.hid (own_behindW H.out.own hg.2.2)
  have HG := Lib.hid hg
  clear hg hbk
  go_wp2_with (at_builtin; refine wpList_append_any _ rfl _ _ 22 rfl 0 5 i0 (.int .u8 0) 1 1 Tryd.underlying22 HI.out HZ0.out HZ1.out HZ2.out rfl (by decide) _ _ _ rfl HO1.out w1.heap.size A (putL n bits first).length c (bs (putL n bits first)) rfl HG.out.2.1 (bs_one _) (by unfold maxLen; omega) (by omega) (Nat.zero_le _) ?_; intro v2 w2 hown2 hg2 hv2; obtain ⟨A2, c2, rfl⟩ := own_slice hown2; have hend := wrote_end H.out HG.out.2.2 hown2 hg2 hv2; have c0 := hend.2.1; have f0 := hend.2.2.1; have hlt := hend.2.2.2; have HEND := Lib.hid hend.1; clear hend)
  go_end0
  exact ⟨rfl, HEND.out⟩

set_option maxRecDepth 100000 in
set_option maxHeartbeats 2000000 in
theorem wtext_any {w : World} {g : Nat} {v : Value} {l : List UInt8} (h : Wr w g v l) (s : List UInt8) (hs : s.length ≤ 140737488355328) (hl : l.length + (txtL s).length ≤ 140737488355328) :
    Calls Tryd.prog 92 #[.pointer (some ⟨g, 0, none⟩), .string ⟨s.toArray⟩] w fun e w' => e = .returned (.tuple #[]) ∧ Wrote w w' g v (l ++ txtL s) := by
  obtain ⟨i0, hi, hz0, hz1, hz2⟩ := info_parts u8_info
  have HI := Lib.hid hi
  have HZ0 := Lib.hid hz0
  have HZ1 := Lib.hid hz1
  have HZ2 := Lib.hid hz2
  have H := Lib.hid h
  clear hi hz0 hz1 hz2 h
  go_enter Tryd.func92, Tryd.ntmps92
  go_wp2_with fail
  refine (htext_gave s w hs).mono ?_
  rintro e w1 ⟨A, c, rfl, hg⟩
  have hbk := H.out.blk.below hg.2.2 H.out.blk.lt
  have c0 := hbk.cell 0
  have f0 := hbk.frozen 0
  have hlt := hbk.lt
  have HO1 := Lib.hid (own_behindW H.out.own hg.2.2)
  have HG := Lib.hid hg
  clear hg hbk
  go_wp2_with (at_builtin; refine wpList_append_any _ rfl _ _ 22 rfl 0 5 i0 (.int .u8 0) 1 1 Tryd.underlying22 HI.out HZ0.out HZ1.out HZ2.out rfl (by decide) _ _ _ rfl HO1.out w1.heap.size A (txtL s).length c (bs (txtL s)) rfl HG.out.2.1 (bs_one _) (by unfold maxLen; omega) (by omega) (Nat.zero_le _) ?_; intro v2 w2 hown2 hg2 hv2; obtain ⟨A2, c2, rfl⟩ := own_slice hown2; have hend := wrote_end H.out HG.out.2.2 hown2 hg2 hv2; have c0 := hend.2.1; have f0 := hend.2.2.1; have hlt := hend.2.2.2; have HEND := Lib.hid hend.1; clear hend)
  go_end0
  exact ⟨rfl, HEND.out⟩
end Go.Proofs.YtkbbkamnmdeagaaDoor
namespace Go.Proofs.YtkbbkamnmdeagaaDoor
open Go.RowKit
attribute [local go_sem ↓] Go.wp_at_zero Go.wp_at_succ

/-- Sizes as values. -/
def szs (ps : List Nat) : List Value := ps.map fun p => .int .i64 ((p : Nat) : Int)
theorem szs_append (a b : List Nat) : szs (a ++ b) = szs a ++ szs b := by simp [szs]
theorem szs_length (ps : List Nat) : (szs ps).length = ps.length := by simp [szs]
/-- A coder for what goes out: its block, its table, its sizes. -/
structure COut (w : World) (C g : Nat) (A : Option Addr) (c : Nat) (Sv : Value) (xs : List Fld) (mx : Nat) (ps : List Nat) : Prop where
  blk : ∃ h mo bd, Blk w C 134 #[.pointer (some ⟨g, 0, none⟩), h, mo, Sv, bd]
  tab : Tab w g A c xs mx
  row : w.ownsRow 0 3 1 Sv ps.length (szs ps)
def oOwn (C g : Nat) (A : Option Addr) (Sv : Value) (k : Nat) : Prop := k = C ∨ tOwn g A k ∨ Sv.ownBlock = some k
/-- A coder for what comes: its block, its table, the size at New, whether it is bad. -/
structure CIn (w : World) (C h : Nat) (A : Option Addr) (c : Nat) (ys : List Fld) (my most : Nat) (bad : Bool) : Prop where
  blk : ∃ g Sv, Blk w C 134 #[g, .pointer (some ⟨h, 0, none⟩), .int .i64 ((most : Nat) : Int), Sv, .bool bad]
  tab : Tab w h A c ys my
def iOwn (C h : Nat) (A : Option Addr) (k : Nat) : Prop := k = C ∨ tOwn h A k
section
variable {w w' : World} {C g h : Nat} {A : Option Addr} {c : Nat} {Sv : Value} {xs ys : List Fld} {mx my most : Nat} {ps : List Nat} {bad : Bool} {S : Nat → Prop}
theorem COut.keep (H : COut w C g A c Sv xs mx ps) (hk : Keep S w w') (hS : ∀ k, oOwn C g A Sv k → ¬ S k) : COut w' C g A c Sv xs mx ps := by
  obtain ⟨⟨h, mo, bd, hb⟩, ht, hr⟩ := H
  exact ⟨⟨h, mo, bd, hb.keep hk (hS C (.inl rfl))⟩, ht.keep hk fun k h => hS k (.inr (.inl h)), ownRow_keep hr hk fun k h => hS k (.inr (.inr h))⟩
theorem COut.below (H : COut w C g A c Sv xs mx ps) (hb : Below w.heap.size w w') : COut w' C g A c Sv xs mx ps := H.keep (S := fun _ => False) (Keep.of_below hb) fun _ _ h => h
theorem COut.lt (H : COut w C g A c Sv xs mx ps) : ∀ k, oOwn C g A Sv k → k < w.heap.size := by
  obtain ⟨⟨h, mo, bd, hb⟩, ht, hr⟩ := H
  rintro k (rfl | hk | hk)
  · exact hb.lt
  · exact ht.lt k hk
  · exact (hr.lt k hk).2
theorem CIn.keep (H : CIn w C h A c ys my most bad) (hk : Keep S w w') (hS : ∀ k, iOwn C h A k → ¬ S k) : CIn w' C h A c ys my most bad := by
  obtain ⟨⟨g, Sv, hb⟩, ht⟩ := H
  exact ⟨⟨g, Sv, hb.keep hk (hS C (.inl rfl))⟩, ht.keep hk fun k h => hS k (.inr h)⟩
theorem CIn.below (H : CIn w C h A c ys my most bad) (hb : Below w.heap.size w w') : CIn w' C h A c ys my most bad := H.keep (S := fun _ => False) (Keep.of_below hb) fun _ _ h => h
theorem CIn.lt (H : CIn w C h A c ys my most bad) : ∀ k, iOwn C h A k → k < w.heap.size := by
  obtain ⟨⟨g, Sv, hb⟩, ht⟩ := H
  rintro k (rfl | hk)
  · exact hb.lt
  · exact ht.lt k hk
/-- The coder's own block is none of the table's, none of the row's. -/
theorem COut.ne (H : COut w C g A c Sv xs mx ps) : ¬ tOwn g A C ∧ Sv.ownBlock ≠ some C ∧ ∀ k, Sv.ownBlock = some k → ¬ tOwn g A k := by
  obtain ⟨⟨h, mo, bd, hb⟩, ht, hr⟩ := H
  have h1 : ¬ tOwn g A C := by
    rintro (rfl | ⟨a, ha, he⟩)
    · exact Blk.ne_ hb ht.blk (by decide) rfl
    · have := own_blk_ne ht.own hb (by decide)
      rw [ha] at this
      exact this (by simp [Value.ownBlock, he])
  refine ⟨h1, own_blk_ne hr hb (by decide), fun k hk => ?_⟩
  rcases hr.2 with ⟨rfl, _⟩ | ⟨q, cap, cur, rfl, _, hq, _⟩
  · simp [Value.ownBlock] at hk
  · have e : q = k := by simpa [Value.ownBlock] using hk
    subst e
    have hqb : Blk w q 3 cur := hq
    rintro (rfl | ⟨a, ha, he⟩)
    · exact Blk.ne_ hqb ht.blk (by decide) rfl
    · have := own_blk_ne ht.own hqb (by decide)
      rw [ha] at this
      exact this (by simp [Value.ownBlock, he])
end
/-- What a call leaves of a coder for what goes out. -/
def OutDone (w w' : World) (C g : Nat) (A : Option Addr) (Sv : Value) (xs' : List Fld) (mx' : Nat) (ps' : List Nat) : Prop :=
  ∃ A' c' Sv', COut w' C g A' c' Sv' xs' mx' ps' ∧ Keep (oOwn C g A Sv) w w' ∧ ∀ k, oOwn C g A' Sv' k → oOwn C g A Sv k ∨ w.heap.size ≤ k

set_option maxRecDepth 100000 in
set_option maxHeartbeats 2000000 in
theorem cnew_no (m : Int) (h : m < 0 ∨ 4096 < m) (w : World) :
    Calls Tryd.prog 57 #[.int .i64 m] w fun e w' => e = .returned (.tuple #[.pointer none, .iface 113 (.int .i64 1)]) ∧ w = w' := by
  have H := Lib.hid h
  clear h
  go_enter Tryd.func57, Tryd.ntmps57
  go_wp2_with fail
  refine (new_no m H.out _).mono ?_
  rintro e w' ⟨rfl, rfl⟩
  go_wp2
  go_ret2
  exact ⟨rfl, rfl⟩
set_option maxRecDepth 100000 in
set_option maxHeartbeats 2000000 in
theorem cnew_yes (m : Nat) (hm : m ≤ 4096) (w : World) :
    Calls Tryd.prog 57 #[.int .i64 (m : Int)] w fun e w' => ∃ C g h, e = .returned (.tuple #[.pointer (some ⟨C, 0, none⟩), .nilIface]) ∧ COut w' C g none 0 (.slice none 0 0) [] m [] ∧ CIn w' C h none 0 [] m m false ∧
      Below w.heap.size w w' ∧ w.heap.size ≤ C ∧ w.heap.size ≤ g ∧ w.heap.size ≤ h := by
  go_enter Tryd.func57, Tryd.ntmps57
  go_wp2_with fail
  refine (new_yes m hm w).mono ?_
  rintro e w1 ⟨rfl, hT1, hb1, -⟩
  have HT1 := Lib.hid hT1
  have HB1 := Lib.hid hb1
  clear hT1 hb1
  go_wp2_with fail
  refine (new_yes m hm w1).mono ?_
  rintro e w2 ⟨rfl, hT2, hb2, -⟩
  have HT2 := Lib.hid hT2
  have HB2 := Lib.hid hb2
  clear hT2 hb2
  go_wp2
  go_ret2
  have hb3 := (Below.refl w2.heap.size w2).alloc (Nat.le_refl _) (.cells #[.pointer (some ⟨w.heap.size, 0, none⟩), .pointer (some ⟨w1.heap.size, 0, none⟩), .int .i64 ((m : Nat) : Int), .slice none 0 0, .bool false] 134)
  have s1 := HB1.out.size
  have s2 := HB2.out.size
  refine ⟨w2.heap.size, w.heap.size, w1.heap.size, rfl, ⟨⟨_, _, _, Blk.new w2 _ _⟩, (HT1.out.below HB2.out).below hb3, World.ownsRow_nil _ _ _ _⟩, ⟨⟨_, _, Blk.new w2 _ _⟩, HT2.out.below hb3⟩,
    (HB1.out.trans (HB2.out.mono s1)).trans (hb3.mono (by omega)), by omega, by omega, by omega⟩

theorem int_info : (Tryd.prog.info? 3).map (fun i => (i.zero, i.size, i.bytes)) = some (some (.int .i64 0), 1, 8) := by kernel_rfl
theorem cres_end {w w1 w2 : World} {C g : Nat} {A : Option Addr} {c p : Nat} {Sv v2 hh mo bd : Value} {xs' : List Fld} {ps : List Nat} (hN : ¬ tOwn g A C ∧ Sv.ownBlock ≠ some C ∧ ∀ k, Sv.ownBlock = some k → ¬ tOwn g A k) (hk1 : Keep (tOwn g A) w w1)
    (hb1 : Blk w1 C 134 #[.pointer (some ⟨g, 0, none⟩), hh, mo, Sv, bd]) (ht1 : Tab w1 g A c xs' p) (o : Obj) (hown2 : w2.ownsRow 0 3 1 v2 (ps.length + 1) (szs ps ++ [.int .i64 ((p : Nat) : Int)])) (hg2 : (w1.alloc o).grownBy w2 Sv.ownBlock)
    (hv : v2.ownBlock = Sv.ownBlock ∨ v2.ownBlock = some (w1.alloc o).heap.size) :
    OutDone w (w2.setCell ⟨C, 3, none⟩ v2) C g A Sv xs' p (ps ++ [p]) ∧ w2.cell? ⟨C, 3, none⟩ = some Sv ∧ w2.frozen? ⟨C, 3, none⟩ = false ∧ C < w2.heap.size := by
  have hba : Below w1.heap.size w1 (w1.alloc o) := (Below.refl _ _).alloc (Nat.le_refl _) _
  have k1 : Keep (fun k => Sv.ownBlock = some k) w1 w2 := (Keep.of_below (S := fun k => Sv.ownBlock = some k) hba).grown hg2 fun k hk => .inl hk
  have hb2 : Blk w2 C 134 #[.pointer (some ⟨g, 0, none⟩), hh, mo, Sv, bd] := hb1.keep k1 hN.2.1
  have ht2 : Tab w2 g A c xs' p := ht1.keep k1 fun k hk hs => hN.2.2 k hs hk
  have k3 : Keep (fun k => k = C) w2 (w2.setCell ⟨C, 3, none⟩ v2) := (Keep.refl (fun k => k = C) w2).setCell (p := ⟨C, 3, none⟩) (.inl rfl) v2
  have hfresh : ∀ k, v2.ownBlock = some k → Sv.ownBlock = some k ∨ w1.heap.size ≤ k := by
    intro k hk
    rcases hv with h | h
    · exact .inl (by rw [← h]; exact hk)
    · rw [h] at hk
      cases hk
      exact .inr (by simp)
  have hne2 : v2.ownBlock ≠ some C := fun e => by
    rcases hfresh C e with h | h
    · exact hN.2.1 h
    · have := hb1.lt
      omega
  refine ⟨⟨A, c, v2, ⟨⟨hh, mo, bd, ?_⟩, ht2.keep k3 fun k hk he => hN.1 (he ▸ hk), ?_⟩, ?_, ?_⟩, hb2.cell 3, hb2.frozen 3, hb2.lt⟩
  · have := hb2.set_ 3 v2
    simpa using this
  · have e1 : szs (ps ++ [p]) = szs ps ++ [.int .i64 ((p : Nat) : Int)] := by rw [szs_append]; rfl
    rw [e1, List.length_append]
    exact ownRow_keep hown2 k3 fun k hk he => hne2 (he ▸ hk)
  · exact ((hk1.mono (T := oOwn C g A Sv) fun i hi => .inr (.inl hi)).trans k1 fun i hi => .inl (.inr (.inr hi))).trans k3 fun i hi => .inl (.inl hi)
  · rintro k (rfl | hk | hk)
    · exact .inl (.inl rfl)
    · exact .inl (.inr (.inl hk))
    · rcases hfresh k hk with h | h
      · exact .inl (.inr (.inr h))
      · exact .inr (Nat.le_trans hk1.size h)

set_option maxRecDepth 100000 in
set_option maxHeartbeats 2000000 in
theorem cresize_yes {w : World} {C g : Nat} {A : Option Addr} {c : Nat} {Sv : Value} {xs : List Fld} {mx : Nat} {ps : List Nat} (H : COut w C g A c Sv xs mx ps) (p : Nat) (hp : p ≤ 4096) (hl : ps.length ≤ 1000000) :
    Calls Tryd.prog 60 #[.pointer (some ⟨C, 0, none⟩), .int .i64 (p : Int)] w fun e w' => e = .returned .nilIface ∧ OutDone w w' C g A Sv (shr p xs) p (ps ++ [p]) := by
  obtain ⟨i0, hi, hz0, hz1, hz2⟩ := info_parts int_info
  have HI := Lib.hid hi
  have HZ0 := Lib.hid hz0
  have HZ1 := Lib.hid hz1
  have HZ2 := Lib.hid hz2
  have HN := Lib.hid H.ne
  have HLT := Lib.hid H.lt
  obtain ⟨⟨hh, mo, bd, hb⟩, ht, hr⟩ := H
  have c0 := hb.cell 0
  have c3 := hb.cell 3
  have HB := Lib.hid hb
  have HT := Lib.hid ht
  have HR := Lib.hid hr
  clear hi hz0 hz1 hz2 hb ht hr
  go_enter Tryd.func60, Tryd.ntmps60
  go_wp2_with fail
  refine (resize_yes HT.out p hp).mono ?_
  rintro e w1 ⟨rfl, hT1, hk1⟩
  have hbk1 := HB.out.keep hk1 HN.out.1
  have hr1 := ownRow_keep HR.out hk1 HN.out.2.2
  have c3 := hbk1.cell 3
  have f3 := hbk1.frozen 3
  have hlt := hbk1.lt
  have HB1 := Lib.hid hbk1
  have HR1 := Lib.hid hr1
  have HT1 := Lib.hid hT1
  have HK1 := Lib.hid hk1
  have hra : (w1.alloc (.cells #[.int .i64 ((p : Nat) : Int)] 3)).ownsRow 0 3 1 Sv ps.length (szs ps) := hr1.alloc _
  have HRA := Lib.hid hra
  clear hbk1 hr1 hT1 hk1 c0 hra
  go_wp2_with (at_builtin; refine wpList_append_any _ rfl _ _ 84 rfl 0 3 i0 (.int .i64 0) 1 8 Tryd.underlying84 HI.out HZ0.out HZ1.out HZ2.out rfl (by decide) _ _ _ rfl HRA.out _ (some ⟨w1.heap.size, 0, none⟩) 1 1 [.int .i64 ((p : Nat) : Int)] rfl ⟨rfl, fun _ => ⟨_, rfl, by simp; exact Nat.lt_succ_self _, cell_one_new _ _ _⟩⟩ (by simp [Value.oneCell']) (by unfold maxLen; omega) (by omega) (Nat.zero_le _) ?_; intro v2 w2 hown2 hg2 hv2; obtain ⟨A2, c2, rfl⟩ := own_slice hown2; have hend := cres_end HN.out HK1.out HB1.out HT1.out _ hown2 hg2 hv2; have c3 := hend.2.1; have f3 := hend.2.2.1; have hlt := hend.2.2.2; have HEND := Lib.hid hend.1; clear hend)
  go_ret
  exact ⟨rfl, HEND.out⟩
end Go.Proofs.YtkbbkamnmdeagaaDoor
