/-
  The reference's table behind a pointer: its words; Size, Always, Weight, Shrink, Add, All, Find. Condition: the fields' texts' lengths.
  The reference's table behind a pointer: Shrink, All. Condition: the fields' texts' lengths.
  The reference's table behind a pointer: Find, Add. Condition: the fields' texts' lengths.
  The reference's table behind a pointer: Add. Condition: the field's texts' lengths.
-/
import Derived.Test.YtkbbkamnmdeagaaDoorMHeadPlays12
import Derived.Deep.QuietTactic
import Derived.BigQuiet
import Derived.Deep.RegionHeld3
import Derived.Deep.RegionLaw
namespace Go.Proofs.YtkbbkamnmdeagaaDoor
open Go.RowKit
attribute [local go_sem ↓] Go.wp_at_zero Go.wp_at_succ

/-- The reference's table: its block; what it reads as. -/
structure RTab (w : World) (g : Nat) (A : Option Addr) (c : Nat) (xs : List Fld) (mx : Nat) : Prop where
  blk : Blk w g 83 #[.slice A xs.length c, .int .i64 (mx : Nat)]
  cap : xs.length ≤ c
  reads : Reads w w.heap.size 2 A xs.length (fvs xs)
  wt : wt xs ≤ 4096
  mx : mx ≤ 4096
  ok : ∀ f ∈ xs, fOk f
section
variable {w w' : World} {g c mx : Nat} {A : Option Addr} {xs : List Fld}
theorem RTab.below (h : RTab w g A c xs mx) (hb : Below w.heap.size w w') : RTab w' g A c xs mx :=
  ⟨h.blk.below hb h.blk.lt, h.cap, (h.reads.below hb).more hb.size, h.wt, h.mx, h.ok⟩
theorem RTab.len (h : RTab w g A c xs mx) : xs.length ≤ 128 := by
  have h1 := wt_len xs
  have h2 := h.wt
  omega
end

set_option maxRecDepth 100000 in
set_option maxHeartbeats 1000000 in
theorem rsize_any (f : Fld) (hf : fOk f) (w : World) :
    Calls Tryd.prog 86 #[.agg #[.string ⟨f.1.toArray⟩, .string ⟨f.2.toArray⟩]] w fun e w' => e = .returned (.int .i64 (fsz f : Nat)) ∧ Below w.heap.size w w' := by
  obtain ⟨h1, h2⟩ := hf
  go_enter Tryd.func86, Tryd.ntmps86
  go_wp2
  go_ret
  refine ⟨?_, (Below.refl _ _).alloc (Nat.le_refl _) _⟩
  simp [fsz]

set_option maxRecDepth 100000 in
set_option maxHeartbeats 4000000 in
theorem ralways_any (w : World) :
    Calls Tryd.prog 89 #[] w fun e w' => ∃ g, e = .returned (.slice (some ⟨g, 0, none⟩) 12 12) ∧ w'.ownsRow w.heap.size 86 2 (.slice (some ⟨g, 0, none⟩) 12 12) 12 (fvs alw) ∧ Below w.heap.size w w' := by
  go_enter Tryd.func89, Tryd.ntmps89
  go_wp2
  go_ret
  refine ⟨_, rfl, ?_, ?_⟩
  · have h : ∀ (W : World) (g : Nat), W.heap.size = g → w.heap.size ≤ g → (W.alloc (.cells (fvs alw).toArray 86)).ownsRow w.heap.size 86 2 (.slice (some ⟨g, 0, none⟩) 12 12) 12 (fvs alw) := by
      rintro W g rfl hg
      exact World.ownsRow_lit W (fvs alw).toArray 12 hg (by decide) rfl
    exact h _ _ (by simp) (by omega)
  · repeat (first | exact Below.refl _ _ | refine Below.alloc ?_ (by simp <;> omega) _)

set_option maxRecDepth 100000 in
set_option maxHeartbeats 4000000 in
theorem rweight_any (l : List Fld) (hf : ∀ f ∈ l, fOk f) (hw : wt l ≤ 140737488355328) (A : Option Addr) (n c : Nat) (hn : n = l.length) (w : World) (hr : Reads w w.heap.size 2 A l.length (fvs l)) :
    Calls Tryd.prog 54 #[.slice A n c] w fun e w' => e = .returned (.int .i64 ((wt l : Nat) : Int)) ∧ Below w.heap.size w w' := by
  subst hn
  have HR := Lib.hid hr
  have HF := Lib.hid hf
  have hl := wt_len l
  clear hr hf
  go_enter Tryd.func54, Tryd.ntmps54
  go_wp2
  obtain ⟨wo, hwo⟩ : ∃ wo : World, w = wo := ⟨_, rfl⟩
  go_loopw [3, 4] (fun x i wr => ∃ k : Nat, k ≤ l.length ∧ i = .int .i64 (k : Int) ∧ x = .int .i64 ((wt (l.take k) : Nat) : Int) ∧ Hid (Below w.heap.size w wr)) (fun _ i _ => l.length - (intOf i).toNat)
  case atStart => exact ⟨0, Nat.zero_le _, rfl, rfl, Below.refl _ _⟩
  case round =>
    obtain ⟨k, hk, rfl, rfl, HB⟩ := hrel
    have hle := wt_take_le l k
    by_cases hlt : k < l.length
    · have hs := wt_take_succ l k hlt
      have hle2 := wt_take_le l (k + 1)
      obtain ⟨b, off, rfl, hbB, hcl⟩ := reads_fld (HR.out.below HB.out) (by omega)
      obtain ⟨e0, e1⟩ := hcl k hlt
      have hfk := Lib.hid (HF.out l[k] (List.getElem_mem hlt))
      have HS := Lib.hid hs
      clear hcl hs
      generalize l[k] = f at *
      generalize wt (l.take k) = W at *
      have hW : fsz f + W ≤ 140737488355328 := by have := HS.out; omega
      go_wp2_with (go_at_call 86; refine (rsize_any f hfk.out _).mono ?_; rintro e w1 ⟨rfl, hb1⟩)
      go_roundw
      case rel => exact ⟨k + 1, by omega, by go_num, by rw [HS.out]; go_num, HB.out.trans (hb1.mono HB.out.size)⟩
      case measure => simp [intOf]; omega
    · have hke : l.take k = l := List.take_of_length_le (by omega)
      rw [hke] at hle ⊢
      go_wp2
      go_ret
      exact ⟨rfl, HB.out⟩
end Go.Proofs.YtkbbkamnmdeagaaDoor
namespace Go.Proofs.YtkbbkamnmdeagaaDoor
open Go.RowKit
attribute [local go_sem ↓] Go.wp_at_zero Go.wp_at_succ

section
variable {w w' : World} {g c mx : Nat} {A : Option Addr} {xs : List Fld}
/-- Only the block g has turned, of what was. -/
abbrev But (g : Nat) (w w' : World) : Prop := Keep (fun k => k = g) w w'
theorem RTab.cells (h : RTab w g A c xs mx) : w.cell? ⟨g, 0, none⟩ = some (.slice A xs.length c) ∧ w.cell? ⟨g, 1, none⟩ = some (.int .i64 (mx : Nat)) := ⟨h.blk.cell 0, h.blk.cell 1⟩
theorem reads_neR {B n' c' : Nat} {A' : Option Addr} {m' : Int} {l : List Fld} {t : TypeId} (hr : Reads w B 2 A l.length (fvs l)) (hb : Blk w g t #[.slice A' n' c', .int .i64 m']) (h0 : 0 < l.length) : ∀ a, A = some a → a.block ≠ g := by
  intro a ha he
  obtain ⟨b, off, hA, _, hc⟩ := reads_fld hr h0
  rw [ha] at hA
  cases hA
  simp only at he
  subst he
  have h1 := (hc 0 h0).1
  have h2 := hb.cell (off + 0 * 2)
  rw [h1] at h2
  rcases off with _ | _ | off
  · simp at h2
  · simp at h2
  · simp at h2
theorem reads_set {B : Nat} {n : Nat} {ys : List Value} (hr : Reads w B 2 A n ys) (hne : 0 < n → ∀ a, A = some a → a.block ≠ g) (i : Nat) (u : Value) : Reads (w.setCell ⟨g, i, none⟩ u) B 2 A n ys := by
  refine ⟨hr.1, fun h0 => ?_⟩
  obtain ⟨ad, hA, hB, hc⟩ := hr.2 h0
  refine ⟨ad, hA, hB, fun j x hj => ?_⟩
  rw [World.cell?_setCell_other w _ _ u (fun e => hne h0 ad hA (by rw [← block_of_add ad j, ← e]))]
  exact hc j x hj
theorem reads_takeF {B k : Nat} {l : List Fld} (hr : Reads w B 2 A l.length (fvs l)) (hk : k ≤ l.length) : Reads w B 2 A (l.take k).length (fvs (l.take k)) := by
  have hl : (l.take k).length = k := by simp; omega
  refine ⟨fvs_length _, fun h0 => ?_⟩
  obtain ⟨ad, hA, hB, hc⟩ := hr.2 (by omega)
  refine ⟨ad, hA, hB, fun j u hj => hc j u ?_⟩
  rw [← fvs_take, List.getElem?_take] at hj
  split at hj
  · exact hj
  · cases hj
theorem RTab.cut (h : RTab w g A c xs mx) {k : Nat} (hk : k ≤ xs.length) : RTab (w.setCell ⟨g, 0, none⟩ (.slice A k c)) g A c (xs.take k) mx := by
  have hl : (xs.take k).length = k := by simp; omega
  have hw := wt_take_le xs k
  have h1 := h.wt
  have h2 := h.cap
  refine ⟨?_, by omega, ?_, by omega, h.mx, fun f hf => h.ok f (List.mem_of_mem_take hf)⟩
  · rw [hl]
    have := h.blk.set_ 0 (.slice A k c)
    simpa using this
  · have hr := reads_set (g := g) h.reads (fun h0 => reads_neR h.reads h.blk h0) 0 (.slice A k c)
    have := reads_takeF hr hk
    simpa using this
end

set_option maxRecDepth 100000 in
set_option maxHeartbeats 4000000 in
theorem rshrink_any {w : World} {g : Nat} {A : Option Addr} {c : Nat} {xs : List Fld} {mx : Nat} (h : RTab w g A c xs mx) (most : Nat) (hmo : most ≤ 4096) :
    Calls Tryd.prog 47 #[.pointer (some ⟨g, 0, none⟩), .int .i64 (most : Int)] w fun e w' => e = .returned (.tuple #[]) ∧ RTab w' g A c (shr most xs) mx ∧ But g w w' := by
  obtain ⟨c0, _⟩ := h.cells
  have hl := h.len
  have hcap := h.cap
  have hw4 := h.wt
  have HT := Lib.hid h
  clear h
  go_enter Tryd.func47, Tryd.ntmps47
  go_wp2
  obtain ⟨wo, hwo⟩ : ∃ wo : World, w = wo := ⟨_, rfl⟩
  go_loopw [4] (fun n wr => ∃ k : Nat, k ≤ xs.length ∧ n = .int .i64 (k : Int) ∧ Hid (shrN most xs k = shrN most xs xs.length) ∧ Hid (Below w.heap.size w wr)) (fun n _ => (intOf n).toNat)
  case atStart => exact ⟨xs.length, Nat.le_refl _, rfl, rfl, Below.refl _ _⟩
  case round =>
    obtain ⟨k, hk, rfl, HN, HB⟩ := hrel
    have hT := HT.out.below HB.out
    obtain ⟨c0, _⟩ := hT.cells
    have f0 := hT.blk.frozen 0
    have hT2 := Lib.hid hT
    have hkl : (xs.take k).length = k := by simp; omega
    have hwl := wt_take_le xs k
    have HKL := Lib.hid hkl
    have hkc : k ≤ c := by omega
    clear hT hkl
    by_cases hgo : wt (xs.take k) ≤ most
    · have hN : shrN most xs k = k := shrN_stay hgo
      have hend : shr most xs = xs.take k := by unfold shr; rw [← HN.out, hN]
      have HEND := Lib.hid hend
      clear hN hend
      by_cases hk0 : 0 < k
      · have HG := Lib.hid (show ¬ (most : Int) < ((wt (xs.take k) : Nat) : Int) by omega)
        clear hgo
        go_wp2_with fail
        refine (rweight_any (xs.take k) (fun f hf => hT2.out.ok f (List.mem_of_mem_take hf)) (by omega) A k c HKL.out.symm wr (reads_takeF hT2.out.reads hk)).mono ?_
        rintro e w1 ⟨rfl, hb1⟩
        have hT3 := hT2.out.below hb1
        obtain ⟨d0, _⟩ := hT3.cells
        have f1 := hT3.blk.frozen 0
        have hgl := hT3.blk.lt
        have hgo := HG.out
        have HR := Lib.hid (hT3.cut hk)
        have HBB := Lib.hid (HB.out.trans (hb1.mono HB.out.size))
        clear hT3 hb1
        go_wp2
        go_end0
        rw [HEND.out]
        exact ⟨rfl, HR.out, (Keep.of_below (S := fun k => k = g) HBB.out).setCell (.inl rfl) _⟩
      · obtain rfl : k = 0 := by omega
        have HR := Lib.hid (hT2.out.cut hk)
        have hgl := hT2.out.blk.lt
        clear hgo
        go_wp2
        go_end0
        rw [HEND.out]
        exact ⟨rfl, HR.out, (Keep.of_below (S := fun k => k = g) HB.out).setCell (.inl rfl) _⟩
    · have hk0 : 0 < k := by
        rcases Nat.eq_zero_or_pos k with h0 | h0
        · subst h0
          exact absurd (by simp [wt]) hgo
        · exact h0
      have hN : shrN most xs (k - 1) = shrN most xs xs.length := by
        obtain ⟨j, rfl⟩ : ∃ j, k = j + 1 := ⟨k - 1, by omega⟩
        have := shrN_go hgo
        rw [Nat.add_sub_cancel, ← this]
        exact HN.out
      have HNN := Lib.hid hN
      have HG := Lib.hid (show (most : Int) < ((wt (xs.take k) : Nat) : Int) by omega)
      clear hgo hN
      go_wp2_with fail
      refine (rweight_any (xs.take k) (fun f hf => hT2.out.ok f (List.mem_of_mem_take hf)) (by omega) A k c HKL.out.symm wr (reads_takeF hT2.out.reads hk)).mono ?_
      rintro e w1 ⟨rfl, hb1⟩
      have hgo := HG.out
      have HBB := Lib.hid (HB.out.trans (hb1.mono HB.out.size))
      clear hb1
      go_wp2
      go_roundw
      case rel => exact ⟨k - 1, by omega, by go_num, HNN, HBB⟩
      case measure => simp [intOf]; omega

set_option maxRecDepth 100000 in
set_option maxHeartbeats 4000000 in
theorem rall_any {w : World} {g : Nat} {A : Option Addr} {c : Nat} {xs : List Fld} {mx : Nat} (h : RTab w g A c xs mx) :
    Calls Tryd.prog 51 #[.pointer (some ⟨g, 0, none⟩)] w fun e w' => ∃ B d, e = .returned (.slice B (tAll xs).length d) ∧ (tAll xs).length ≤ d ∧ Reads w' w'.heap.size 2 B (tAll xs).length (fvs (tAll xs)) ∧ Below w.heap.size w w' := by
  obtain ⟨i0, hi, hz0, hz1, hz2⟩ := info_parts fld_info
  have HI := Lib.hid hi
  have HZ0 := Lib.hid hz0
  have HZ1 := Lib.hid hz1
  have HZ2 := Lib.hid hz2
  have hl := h.len
  have HT := Lib.hid h
  clear hi hz0 hz1 hz2 h
  go_enter Tryd.func51, Tryd.ntmps51
  go_wp2_with fail
  refine (ralways_any w).mono ?_
  rintro e w1 ⟨b, rfl, hown, hb1⟩
  have hT := HT.out.below hb1
  obtain ⟨c0, _⟩ := hT.cells
  have HO := Lib.hid hown
  have HB := Lib.hid hb1
  have HR := Lib.hid hT.reads
  have hs1 := hb1.size
  clear hT hown hb1
  go_wp2_with (at_builtin; refine wpList_append_any _ rfl _ _ 76 rfl w.heap.size 86 i0 _ 2 32 Tryd.underlying76 HI.out HZ0.out HZ1.out HZ2.out rfl (by decide) _ _ _ rfl HO.out w1.heap.size A xs.length c (fvs xs) rfl HR.out (fvs_one _) (by unfold maxLen; omega) (by omega) hs1 ?_; intro v2 w2 hown2 hg2 _)
  go_ret
  have hfv : fvs alw ++ fvs xs = fvs (tAll xs) := by rw [← fvs_append]; rfl
  rw [hfv] at hown2
  have hb2 := below_append HB.out HO.out hg2 hs1
  have hx := tAll_len xs
  rcases hown2.2 with ⟨_, h0⟩ | ⟨g', cap, cur, hv, _, _, hc, _⟩
  · omega
  · subst hv
    rw [← hx] at hown2 hc ⊢
    exact ⟨_, _, rfl, hc, reads_own hown2, hb2⟩
end Go.Proofs.YtkbbkamnmdeagaaDoor
namespace Go.Proofs.YtkbbkamnmdeagaaDoor
open Go.RowKit
attribute [local go_sem ↓] Go.wp_at_zero Go.wp_at_succ

theorem bnd_step {p : Fld → Bool} {l : List Fld} {i : Nat} (h : i < l.length) : (p l[i] = true → bnd p l i = i + 1) ∧ (¬ p l[i] = true → bnd p l i = bnd p l (i + 1)) := by
  have e := bnd_at p l i h
  exact ⟨fun h1 => by rw [e, if_pos h1], fun h1 => by rw [e, if_neg h1]⟩

set_option maxRecDepth 100000 in
set_option maxHeartbeats 4000000 in
theorem rfind_any {w : World} {g : Nat} {A : Option Addr} {c : Nat} {xs : List Fld} {mx : Nat} (h : RTab w g A c xs mx) (f : Fld) (hf : fOk f) :
    Calls Tryd.prog 50 #[.pointer (some ⟨g, 0, none⟩), .agg #[.string ⟨f.1.toArray⟩, .string ⟨f.2.toArray⟩]] w fun e w' =>
      e = .returned (.tuple #[.int .i64 ((fnd (isF f) (tAll xs) : Nat) : Int), .int .i64 ((fnd (isN f) (tAll xs) : Nat) : Int)]) ∧ Below w.heap.size w w' := by
  obtain ⟨T, hTe⟩ : ∃ T, tAll xs = T := ⟨_, rfl⟩
  have hTl2 : T.length ≤ 140 := by rw [← hTe, tAll_len]; have := h.len; omega
  have hTp : 0 < T.length := by rw [← hTe, tAll_len]; omega
  rw [hTe]
  have HTe := Lib.hid hTe
  clear hTe
  have hbx := (Below.refl w.heap.size w).alloc (Nat.le_refl _) (.cells #[.string ⟨f.1.toArray⟩, .string ⟨f.2.toArray⟩] 86)
  have hT := Lib.hid (h.below hbx)
  have hX : Blk (w.alloc (.cells #[.string ⟨f.1.toArray⟩, .string ⟨f.2.toArray⟩] 86)) w.heap.size 86 #[.string ⟨f.1.toArray⟩, .string ⟨f.2.toArray⟩] := Blk.new _ _ _
  have HX := Lib.hid hX
  have HBX := Lib.hid hbx
  clear h hX hbx
  go_enter Tryd.func50, Tryd.ntmps50
  go_wp2_with fail
  refine (rall_any hT.out).mono ?_
  rintro e w1 ⟨B, d, rfl, hd, hr, hb1⟩
  rw [HTe.out] at hr hd ⊢
  obtain ⟨b, off, rfl, hbB, hcl⟩ := reads_fld hr hTp
  have HCL := Lib.hid hcl
  have hx1 := HX.out.below hb1 HX.out.lt
  have q0 := hx1.cell 0
  have q1 := hx1.cell 1
  simp only [List.getElem?_toArray, List.getElem?_cons_zero, List.getElem?_cons_succ] at q0 q1
  have HB := Lib.hid (HBX.out.trans (hb1.mono HBX.out.size))
  have hsw0 : w.heap.size < w1.heap.size := hx1.lt
  have Q0 := Lib.hid q0
  have Q1 := Lib.hid q1
  clear hcl hr hb1 hx1 q0 q1
  go_wp2
  go_loopw [7, 8, 9] (fun u v i wr => ∃ k : Nat, k ≤ T.length ∧ i = .int .i64 ((k : Int) - 1) ∧ u = .int .i64 ((bnd (isF f) T k : Nat) : Int) ∧ v = .int .i64 ((bnd (isN f) T k : Nat) : Int) ∧ Hid (Below w1.heap.size w1 wr)) (fun _ _ i _ => (intOf i + 1).toNat)
  case atStart => exact ⟨T.length, Nat.le_refl _, by go_num, by rw [bnd_end]; rfl, by rw [bnd_end]; rfl, Below.refl _ _⟩
  case round =>
    obtain ⟨k, hk, rfl, rfl, rfl, HW⟩ := hrel
    rcases Nat.eq_zero_or_pos k with rfl | hk0
    · rw [bnd_zero, bnd_zero]
      go_wp2
      go_ret2
      exact ⟨rfl, HB.out.trans (HW.out.mono HB.out.size)⟩
    · obtain ⟨i, rfl⟩ : ∃ i, k = i + 1 := ⟨k - 1, by omega⟩
      have hlt : i < T.length := by omega
      obtain ⟨e1, e2⟩ := HCL.out i hlt
      replace e1 := cell_behind HW.out e1
      replace e2 := cell_behind HW.out e2
      have q0 := cell_behind HW.out Q0.out
      have q1 := cell_behind HW.out Q1.out
      have hsr := Nat.lt_of_lt_of_le hsw0 HW.out.size
      have hbr := Nat.lt_of_lt_of_le hbB HW.out.size
      obtain ⟨F1, F2⟩ := bnd_step (p := isF f) hlt
      obtain ⟨N1, N2⟩ := bnd_step (p := isN f) hlt
      rw [isF_iff] at F1 F2
      rw [isN_iff] at N1 N2
      have hFb : bnd (isF f) T (i + 1) ≤ 1000 ∧ bnd (isN f) T (i + 1) ≤ 1000 := by
        have a1 := fnd_le (isF f) (T.drop (i + 1))
        have a2 := fnd_le (isN f) (T.drop (i + 1))
        simp only [List.length_drop] at a1 a2
        constructor <;> (unfold bnd; split <;> omega)
      obtain ⟨PF, hPF⟩ : ∃ PF, bnd (isF f) T (i + 1) = PF := ⟨_, rfl⟩
      obtain ⟨PN, hPN⟩ : ∃ PN, bnd (isN f) T (i + 1) = PN := ⟨_, rfl⟩
      rw [hPF] at F2 hFb ⊢
      rw [hPN] at N2 hFb ⊢
      replace F1 := Lib.hid F1
      replace F2 := Lib.hid F2
      replace N1 := Lib.hid N1
      replace N2 := Lib.hid N2
      have HPF := Lib.hid hPF
      have HPN := Lib.hid hPN
      clear hPF hPN
      generalize T[i] = x at *
      have ei : ((i + 1 : Nat) : Int) - 1 = (i : Int) := by omega
      rw [ei]
      have hii : ((i : Nat) : Int) < ((T.length : Nat) : Int) := by omega
      clear ei
      have HWI := Lib.hid (show i < T.length from hlt)
      by_cases hn : x.1 = f.1
      · have hn1 : (x.1 == f.1) = true := by simpa using hn
        by_cases hv : x.2 = f.2
        · have hv1 : (x.2 == f.2) = true := by simpa using hv
          have HR := Lib.hid (And.intro (F1.out ⟨hn, hv⟩) (N1.out hn))
          clear F1 F2 N1 N2
          go_wp2_with fail
          go_quiet (fail)
          have e1' : (wr.drewN nq).cell? ⟨b, off + i * 2, none⟩ = some (.string ⟨x.1.toArray⟩) := e1
          have q0' : (wr.drewN nq).cell? ⟨w.heap.size, 0, none⟩ = some (.string ⟨f.1.toArray⟩) := q0
          have hsr' : w.heap.size < (wr.drewN nq).heap.size := hsr
          have hbr' : b < (wr.drewN nq).heap.size := hbr
          have HW2 := Lib.hid (show Below w1.heap.size w1 (wr.drewN nq) from ⟨HW.out.os, HW.out.tape, HW.out.output, HW.out.size, HW.out.block⟩)
          clear e1 e2 q0 q1 hsr hbr HW
          generalize wr.drewN nq = w2 at *
          go_wp2_with fail
          go_quiet (fail)
          have HW3 := Lib.hid (fun n => show Below w1.heap.size w1 (w2.drewN n) from ⟨HW2.out.os, HW2.out.tape, HW2.out.output, HW2.out.size, HW2.out.block⟩)
          go_wp2
          go_roundw
          case rel => exact ⟨i, by omega, by go_num, by rw [HR.out.1] <;> go_num, by rw [HR.out.2] <;> go_num, HW3.out _⟩
          case measure => simp [intOf] <;> omega
        · have hv1 : (x.2 == f.2) = false := by simpa using hv
          have HR := Lib.hid (And.intro (F2.out (fun h => hv h.2)) (N1.out hn))
          clear F1 F2 N1 N2
          go_wp2_with fail
          go_quiet (fail)
          have e1' : (wr.drewN nq).cell? ⟨b, off + i * 2, none⟩ = some (.string ⟨x.1.toArray⟩) := e1
          have q0' : (wr.drewN nq).cell? ⟨w.heap.size, 0, none⟩ = some (.string ⟨f.1.toArray⟩) := q0
          have hsr' : w.heap.size < (wr.drewN nq).heap.size := hsr
          have hbr' : b < (wr.drewN nq).heap.size := hbr
          have HW2 := Lib.hid (show Below w1.heap.size w1 (wr.drewN nq) from ⟨HW.out.os, HW.out.tape, HW.out.output, HW.out.size, HW.out.block⟩)
          clear e1 e2 q0 q1 hsr hbr HW
          generalize wr.drewN nq = w2 at *
          go_wp2_with fail
          go_quiet (fail)
          have HW3 := Lib.hid (fun n => show Below w1.heap.size w1 (w2.drewN n) from ⟨HW2.out.os, HW2.out.tape, HW2.out.output, HW2.out.size, HW2.out.block⟩)
          go_wp2
          go_roundw
          case rel => exact ⟨i, by omega, by go_num, by rw [HR.out.1] <;> go_num, by rw [HR.out.2] <;> go_num, HW3.out _⟩
          case measure => simp [intOf] <;> omega
      · have hn1 : (x.1 == f.1) = false := by simpa using hn
        have HR := Lib.hid (And.intro (F2.out (fun h => hn h.1)) (N2.out hn))
        clear F1 F2 N1 N2
        go_wp2_with fail
        go_quiet (fail)
        have e1' : (wr.drewN nq).cell? ⟨b, off + i * 2, none⟩ = some (.string ⟨x.1.toArray⟩) := e1
        have q0' : (wr.drewN nq).cell? ⟨w.heap.size, 0, none⟩ = some (.string ⟨f.1.toArray⟩) := q0
        have hsr' : w.heap.size < (wr.drewN nq).heap.size := hsr
        have hbr' : b < (wr.drewN nq).heap.size := hbr
        have HW2 := Lib.hid (show Below w1.heap.size w1 (wr.drewN nq) from ⟨HW.out.os, HW.out.tape, HW.out.output, HW.out.size, HW.out.block⟩)
        clear e1 e2 q0 q1 hsr hbr HW
        generalize wr.drewN nq = w2 at *
        go_wp2_with fail
        go_quiet (fail)
        have HW3 := Lib.hid (fun n => show Below w1.heap.size w1 (w2.drewN n) from ⟨HW2.out.os, HW2.out.tape, HW2.out.output, HW2.out.size, HW2.out.block⟩)
        go_wp2
        go_roundw
        case rel => exact ⟨i, by omega, by go_num, by rw [HR.out.1] <;> go_num, by rw [HR.out.2] <;> go_num, HW3.out _⟩
        case measure => simp [intOf] <;> omega
end Go.Proofs.YtkbbkamnmdeagaaDoor
namespace Go.Proofs.YtkbbkamnmdeagaaDoor
open Go.RowKit
attribute [local go_sem ↓] Go.wp_at_zero Go.wp_at_succ

/-- What an add leaves of the reference's table. -/
def RAdded (w w' : World) (g : Nat) (mx : Nat) (xs : List Fld) (f : Fld) : Prop := ∃ A' c', RTab w' g A' c' (tAdd mx xs f) mx ∧ But g w w' ∧ ∀ a, A' = some a → w.heap.size ≤ a.block ∧ a.block < w'.heap.size
theorem below_ofd {w w1 : World} (hb : Below w.drew.heap.size w.drew w1) : Below w.heap.size w w1 := ⟨hb.os, hb.tape, hb.output, hb.size, hb.block⟩
theorem but_of {w w1 : World} {g : Nat} (hb : Below w.heap.size w w1) : But g w w1 := Keep.of_below hb
theorem But.nx {w w1 w2 : World} {g : Nat} (h : But g w w1) (k : But g w1 w2) : But g w w2 := h.trans k fun _ hi => .inl hi
theorem RTab.emptied {w : World} {g c mx : Nat} {A : Option Addr} {xs : List Fld} (h : RTab w g A c xs mx) : RTab (w.setCell ⟨g, 0, none⟩ (.slice none 0 0)) g none 0 [] mx := by
  refine ⟨?_, Nat.le_refl _, Reads.none_, Nat.zero_le _, h.mx, by simp⟩
  have := h.blk.set_ 0 (.slice none 0 0)
  simpa using this
theorem RTab.laid {w w1 : World} {g c c' mx : Nat} {A A' : Option Addr} {xs ys : List Fld} (h : RTab w g A c xs mx) (hb : Below w.heap.size w w1) (hc : ys.length ≤ c') (hr : Reads w1 w1.heap.size 2 A' ys.length (fvs ys)) (hw : Go.Proofs.YtkbbkamnmdeagaaDoor.wt ys ≤ 4096) (hok : ∀ f ∈ ys, fOk f) :
    RTab (w1.setCell ⟨g, 0, none⟩ (.slice A' ys.length c')) g A' c' ys mx := by
  have hk := h.blk.below hb h.blk.lt
  refine ⟨?_, hc, ?_, hw, h.mx, hok⟩
  · have := hk.set_ 0 (.slice A' ys.length c')
    simpa using this
  · have := reads_set (g := g) hr (fun h0 => reads_neR hr hk h0) 0 (.slice A' ys.length c')
    simpa using this

set_option maxRecDepth 100000 in
set_option maxHeartbeats 4000000 in
theorem radd_any {w : World} {g : Nat} {A : Option Addr} {c : Nat} {xs : List Fld} {mx : Nat} (h : RTab w g A c xs mx) (f : Fld) (hf : fOk f) :
    Calls Tryd.prog 46 #[.pointer (some ⟨g, 0, none⟩), .agg #[.string ⟨f.1.toArray⟩, .string ⟨f.2.toArray⟩]] w fun e w' => e = .returned (.bool (decide (fsz f ≤ mx))) ∧ RAdded w w' g mx xs f := by
  have hbx := (Below.refl w.heap.size w).alloc (Nat.le_refl _) (.cells #[.string ⟨f.1.toArray⟩, .string ⟨f.2.toArray⟩] 86)
  have hT := h.below hbx
  have hgw := h.blk.lt
  have hX : Blk (w.alloc (.cells #[.string ⟨f.1.toArray⟩, .string ⟨f.2.toArray⟩] 86)) w.heap.size 86 #[.string ⟨f.1.toArray⟩, .string ⟨f.2.toArray⟩] := Blk.new _ _ _
  obtain ⟨_, c1⟩ := hT.cells
  have b0 := hX.cell 0
  have b1 := hX.cell 1
  simp only [List.getElem?_toArray, List.getElem?_cons_zero, List.getElem?_cons_succ] at b0 b1
  have hmx := h.mx
  have HT := Lib.hid hT
  have HX := Lib.hid hX
  have HB := Lib.hid hbx
  clear hT hX hbx h
  by_cases hno : mx < fsz f
  · have e : decide (fsz f ≤ mx) = false := by simp; omega
    rw [e]
    have hd : decide (((mx : Nat) : Int) < ((fsz f : Nat) : Int)) = true := by simp; omega
    have HNO := Lib.hid (tAdd_no hno (xs := xs))
    clear e
    go_enter Tryd.func46, Tryd.ntmps46
    go_wp2
    generalize (w.alloc (.cells #[.string ⟨f.1.toArray⟩, .string ⟨f.2.toArray⟩] 86)) = W at *
    go_region_held3 (fun w' => w'.cell? ⟨g, 1, none⟩ = some (.int .i64 ((mx : Nat) : Int)) ∧ w'.cell? ⟨w.heap.size, 0, none⟩ = some (.string ⟨f.1.toArray⟩) ∧ w'.cell? ⟨w.heap.size, 1, none⟩ = some (.string ⟨f.2.toArray⟩))
      (first | go_keep | (exact ⟨cell_behind hb1 ‹_›, cell_behind hb1 ‹_›, cell_behind hb1 ‹_›⟩))
      (first | (go_at_call 86; refine (rsize_any f hf _).mono ?_; rintro e w1 ⟨rfl, hb1⟩))
    all_goals
      have hbW := below_ofd hb1
      have h1 := HT.out.below hbW
      obtain ⟨c0, _⟩ := h1.cells
      have f0 := h1.blk.frozen 0
      have hg1 := h1.blk.lt
      have HR := Lib.hid h1.emptied
      have HB2 := Lib.hid (HB.out.trans (hbW.mono HB.out.size))
      clear h1 hbW hb1
      go_wp2
      go_ret
      exact ⟨rfl, none, 0, by rw [HNO.out]; exact HR.out, (Keep.of_below (S := fun k => k = g) HB2.out).setCell (.inl rfl) _, fun a h => by cases h⟩
  · have e : decide (fsz f ≤ mx) = true := by simp; omega
    rw [e]
    have hd : decide (((mx : Nat) : Int) < ((fsz f : Nat) : Int)) = false := by simp; omega
    have hwr : IntKind.i64.wrap (((mx : Nat) : Int) - ((fsz f : Nat) : Int)) = ((mx - fsz f : Nat) : Int) := by
      rw [IntKind.wrap_i64]
      omega
    have HNO := Lib.hid (tAdd_yes hno (xs := xs))
    have hwa := wt_tAdd mx xs f
    have hmo : mx - fsz f ≤ 4096 := by omega
    have HWA := Lib.hid hwa
    clear e hwa
    go_enter Tryd.func46, Tryd.ntmps46
    go_wp2
    generalize (w.alloc (.cells #[.string ⟨f.1.toArray⟩, .string ⟨f.2.toArray⟩] 86)) = W at *
    go_region_held3 (fun w' => w'.cell? ⟨g, 1, none⟩ = some (.int .i64 ((mx : Nat) : Int)) ∧ w'.cell? ⟨w.heap.size, 0, none⟩ = some (.string ⟨f.1.toArray⟩) ∧ w'.cell? ⟨w.heap.size, 1, none⟩ = some (.string ⟨f.2.toArray⟩))
      (first | go_keep | (exact ⟨cell_behind hb1 ‹_›, cell_behind hb1 ‹_›, cell_behind hb1 ‹_›⟩))
      (first | (go_at_call 86; refine (rsize_any f hf _).mono ?_; rintro e w1 ⟨rfl, hb1⟩))
    all_goals
      have hbW := below_ofd hb1
      have h1 := HT.out.below hbW
      have x1 := HX.out.below hbW HX.out.lt
      obtain ⟨_, c1⟩ := h1.cells
      have b0 := x1.cell 0
      have b1 := x1.cell 1
      simp only [List.getElem?_toArray, List.getElem?_cons_zero, List.getElem?_cons_succ] at b0 b1
      have HT1 := Lib.hid h1
      have HX1 := Lib.hid x1
      have HB1 := Lib.hid (HB.out.trans (hbW.mono HB.out.size))
      clear h1 x1 hbW hb1 HT HX HB
      go_wp2
      go_region_held3 (fun w' => w'.cell? ⟨g, 1, none⟩ = some (.int .i64 ((mx : Nat) : Int)) ∧ w'.cell? ⟨w.heap.size, 0, none⟩ = some (.string ⟨f.1.toArray⟩) ∧ w'.cell? ⟨w.heap.size, 1, none⟩ = some (.string ⟨f.2.toArray⟩))
        (first | go_keep | (exact ⟨cell_behind hb2 ‹_›, cell_behind hb2 ‹_›, cell_behind hb2 ‹_›⟩) | (exact ⟨h3.cells.2, (hx3.cell 0), (hx3.cell 1)⟩))
        (first | (go_at_call 86; refine (rsize_any f hf _).mono ?_; rintro e w2 ⟨rfl, hb2⟩) | (go_at_call 47; refine (rshrink_any (HT1.out.below (below_ofd hb2)) (mx - fsz f) hmo).mono ?_; rintro e w3 ⟨rfl, h3, h4⟩; have hx3 := (HX1.out.below (below_ofd hb2) HX1.out.lt).keep h4 (fun ht => absurd hgw (by rw [← ht]; exact Nat.lt_irrefl _))))
      all_goals
        have hB3 := Lib.hid (((but_of HB1.out).nx (but_of (g := g) (below_ofd hb2))).nx h4)
        obtain ⟨ys, hys⟩ : ∃ ys, shr (mx - fsz f) xs = ys := ⟨_, rfl⟩
        rw [hys] at h3
        have HNO2 := Lib.hid (show tAdd mx xs f = f :: ys by rw [HNO.out, hys])
        have hwy : wt (f :: ys) ≤ mx := by rw [← HNO2.out]; exact HWA.out
        have hok3 : ∀ x ∈ f :: ys, fOk x := by
          intro x hx
          rcases List.mem_cons.1 hx with rfl | hx
          · exact hf
          · exact h3.ok x hx
        have hylen := h3.len
        obtain ⟨c30, _⟩ := h3.cells
        have p0 := hx3.cell 0
        have p1 := hx3.cell 1
        simp only [List.getElem?_toArray, List.getElem?_cons_zero, List.getElem?_cons_succ] at p0 p1
        have hown : (w3.alloc (.cells #[.string ⟨f.1.toArray⟩, .string ⟨f.2.toArray⟩] 86)).ownsRow w3.heap.size 86 2 (.slice (some ⟨w3.heap.size, 0, none⟩) 1 1) 1 (fv f) := World.ownsRow_lit w3 _ 1 (Nat.le_refl _) (by decide) rfl
        have hbn := (Below.refl w3.heap.size w3).alloc (Nat.le_refl _) (.cells #[.string ⟨f.1.toArray⟩, .string ⟨f.2.toArray⟩] 86)
        have hrn := h3.reads.below hbn
        have hgl3 := h3.blk.lt
        have HO := Lib.hid hown
        have HBN := Lib.hid hbn
        have HRN := Lib.hid hrn
        have H3 := Lib.hid h3
        have HOK := Lib.hid hok3
        have HWY := Lib.hid hwy
        obtain ⟨i0, hi, hz0, hz1, hz2⟩ := info_parts fld_info
        have HI := Lib.hid hi
        have HZ0 := Lib.hid hz0
        have HZ1 := Lib.hid hz1
        have HZ2 := Lib.hid hz2
        have hmono : w3.heap.size ≤ (w3.alloc (.cells #[.string ⟨f.1.toArray⟩, .string ⟨f.2.toArray⟩] 86)).heap.size := by simp
        have HMO := Lib.hid hmono
        clear hi hz0 hz1 hz2 hown hbn hrn h3 hok3 hwy hmono hb2 h4 hx3 hys HT1 HX1 HB1 HNO HWA
        go_wp2_with (at_builtin; refine wpList_append_any _ rfl _ _ 76 rfl w3.heap.size 86 i0 _ 2 32 Tryd.underlying76 HI.out HZ0.out HZ1.out HZ2.out rfl (by decide) _ _ _ rfl HO.out w3.heap.size A ys.length c (fvs ys) rfl HRN.out (fvs_one _) (by unfold maxLen; omega) (by omega) HMO.out ?_; intro v4 w4 hown4 hg4 _; obtain ⟨q, cap4, hv4, hq3, hq4⟩ := hown4.form (show 0 < 1 + ys.length by omega); subst hv4; have hb4 := Lib.hid (below_append HBN.out HO.out hg4 HMO.out); have hk4 := H3.out.blk.below hb4.out H3.out.blk.lt; have t0 := hk4.cell 0; have t1 := hk4.frozen 0; have tl := hk4.lt)
        go_ret
        have hc4 : (f :: ys).length ≤ cap4 := by
          rcases hown4.2 with ⟨h0, _⟩ | ⟨_, cap, _, hv, _, _, hc, _⟩
          · cases h0
          · injection hv with _ _ hv
            subst hv
            simp only [List.length_cons]
            omega
        have e1 : 1 + ys.length = (f :: ys).length := by simp only [List.length_cons]; omega
        rw [e1] at hown4 ⊢
        have hfin := H3.out.laid hb4.out hc4 (reads_own hown4) (by have := HWY.out; omega) HOK.out
        exact ⟨rfl, _, _, by rw [HNO2.out]; exact hfin, (hB3.out.nx (but_of hb4.out)).setCell (.inl rfl) _, fun a h => by cases h; exact ⟨Nat.le_trans hB3.out.size hq3, by simpa using hq4⟩⟩
end Go.Proofs.YtkbbkamnmdeagaaDoor
