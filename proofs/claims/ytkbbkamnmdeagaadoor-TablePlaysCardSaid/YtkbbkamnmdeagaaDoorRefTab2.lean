/-
  The reference's table behind a pointer: Shrink, All. Condition: the fields' texts' lengths.
-/
import Derived.Test.YtkbbkamnmdeagaaDoorRefTab
namespace Go.Proofs.YtkbbkamnmdeagaaDoor
open Go.RowKit
attribute [local go_sem ↓] Go.wp_at_zero Go.wp_at_succ

section
variable {w w' : World} {g c mx : Nat} {A : Option Addr} {xs : List Fld}
/-- Only the block g has turned, of what was. -/
abbrev But (g : Nat) (w w' : World) : Prop := Keep (fun k => k = g) w w'
theorem RTab.cells (h : RTab w g A c xs mx) : w.cell? ⟨g, 0, none⟩ = some (.slice A xs.length c) ∧ w.cell? ⟨g, 1, none⟩ = some (.int .i64 (mx : Nat)) := ⟨h.blk.cell 0, h.blk.cell 1⟩
theorem reads_neR {B n' c' : Nat} {A' : Option Addr} {m' : Int} {l : List Fld} {t : TypeId} (hr : Reads w B 2 A l.length (fvs l)) (hb : Blk w g t #[.slice A' n' c', .int .i64 m']) (h0 : 0 < l.length) : ∀ a, A = some a → a.block ≠ g := by
  intro a ha he
  obtain ⟨b, off, hA, _, hc⟩ := reads_fld hr h0
  rw [ha] at hA
  cases hA
  simp only at he
  subst he
  have h1 := (hc 0 h0).1
  have h2 := hb.cell (off + 0 * 2)
  rw [h1] at h2
  rcases off with _ | _ | off
  · simp at h2
  · simp at h2
  · simp at h2
theorem reads_set {B : Nat} {n : Nat} {ys : List Value} (hr : Reads w B 2 A n ys) (hne : 0 < n → ∀ a, A = some a → a.block ≠ g) (i : Nat) (u : Value) : Reads (w.setCell ⟨g, i, none⟩ u) B 2 A n ys := by
  refine ⟨hr.1, fun h0 => ?_⟩
  obtain ⟨ad, hA, hB, hc⟩ := hr.2 h0
  refine ⟨ad, hA, hB, fun j x hj => ?_⟩
  rw [World.cell?_setCell_other w _ _ u (fun e => hne h0 ad hA (by rw [← block_of_add ad j, ← e]))]
  exact hc j x hj
theorem reads_takeF {B k : Nat} {l : List Fld} (hr : Reads w B 2 A l.length (fvs l)) (hk : k ≤ l.length) : Reads w B 2 A (l.take k).length (fvs (l.take k)) := by
  have hl : (l.take k).length = k := by simp; omega
  refine ⟨fvs_length _, fun h0 => ?_⟩
  obtain ⟨ad, hA, hB, hc⟩ := hr.2 (by omega)
  refine ⟨ad, hA, hB, fun j u hj => hc j u ?_⟩
  rw [← fvs_take, List.getElem?_take] at hj
  split at hj
  · exact hj
  · cases hj
theorem RTab.cut (h : RTab w g A c xs mx) {k : Nat} (hk : k ≤ xs.length) : RTab (w.setCell ⟨g, 0, none⟩ (.slice A k c)) g A c (xs.take k) mx := by
  have hl : (xs.take k).length = k := by simp; omega
  have hw := wt_take_le xs k
  have h1 := h.wt
  have h2 := h.cap
  refine ⟨?_, by omega, ?_, by omega, h.mx, fun f hf => h.ok f (List.mem_of_mem_take hf)⟩
  · rw [hl]
    have := h.blk.set_ 0 (.slice A k c)
    simpa using this
  · have hr := reads_set (g := g) h.reads (fun h0 => reads_neR h.reads h.blk h0) 0 (.slice A k c)
    have := reads_takeF hr hk
    simpa using this
end

set_option maxRecDepth 100000 in
set_option maxHeartbeats 4000000 in
theorem rshrink_any {w : World} {g : Nat} {A : Option Addr} {c : Nat} {xs : List Fld} {mx : Nat} (h : RTab w g A c xs mx) (most : Nat) (hmo : most ≤ 4096) :
    Calls Tryd.prog 47 #[.pointer (some ⟨g, 0, none⟩), .int .i64 (most : Int)] w fun e w' => e = .returned (.tuple #[]) ∧ RTab w' g A c (shr most xs) mx ∧ But g w w' := by
  obtain ⟨c0, _⟩ := h.cells
  have hl := h.len
  have hcap := h.cap
  have hw4 := h.wt
  have HT := Lib.hid h
  clear h
  go_enter Tryd.func47, Tryd.ntmps47
  go_wp2
  obtain ⟨wo, hwo⟩ : ∃ wo : World, w = wo := ⟨_, rfl⟩
  go_loopw [4] (fun n wr => ∃ k : Nat, k ≤ xs.length ∧ n = .int .i64 (k : Int) ∧ Hid (shrN most xs k = shrN most xs xs.length) ∧ Hid (Below w.heap.size w wr)) (fun n _ => (intOf n).toNat)
  case atStart => exact ⟨xs.length, Nat.le_refl _, rfl, rfl, Below.refl _ _⟩
  case round =>
    obtain ⟨k, hk, rfl, HN, HB⟩ := hrel
    have hT := HT.out.below HB.out
    obtain ⟨c0, _⟩ := hT.cells
    have f0 := hT.blk.frozen 0
    have hT2 := Lib.hid hT
    have hkl : (xs.take k).length = k := by simp; omega
    have hwl := wt_take_le xs k
    have HKL := Lib.hid hkl
    have hkc : k ≤ c := by omega
    clear hT hkl
    by_cases hgo : wt (xs.take k) ≤ most
    · have hN : shrN most xs k = k := shrN_stay hgo
      have hend : shr most xs = xs.take k := by unfold shr; rw [← HN.out, hN]
      have HEND := Lib.hid hend
      clear hN hend
      by_cases hk0 : 0 < k
      · have HG := Lib.hid (show ¬ (most : Int) < ((wt (xs.take k) : Nat) : Int) by omega)
        clear hgo
        go_wp2_with fail
        refine (rweight_any (xs.take k) (fun f hf => hT2.out.ok f (List.mem_of_mem_take hf)) (by omega) A k c HKL.out.symm wr (reads_takeF hT2.out.reads hk)).mono ?_
        rintro e w1 ⟨rfl, hb1⟩
        have hT3 := hT2.out.below hb1
        obtain ⟨d0, _⟩ := hT3.cells
        have f1 := hT3.blk.frozen 0
        have hgl := hT3.blk.lt
        have hgo := HG.out
        have HR := Lib.hid (hT3.cut hk)
        have HBB := Lib.hid (HB.out.trans (hb1.mono HB.out.size))
        clear hT3 hb1
        go_wp2
        go_end0
        rw [HEND.out]
        exact ⟨rfl, HR.out, (Keep.of_below (S := fun k => k = g) HBB.out).setCell (.inl rfl) _⟩
      · obtain rfl : k = 0 := by omega
        have HR := Lib.hid (hT2.out.cut hk)
        have hgl := hT2.out.blk.lt
        clear hgo
        go_wp2
        go_end0
        rw [HEND.out]
        exact ⟨rfl, HR.out, (Keep.of_below (S := fun k => k = g) HB.out).setCell (.inl rfl) _⟩
    · have hk0 : 0 < k := by
        rcases Nat.eq_zero_or_pos k with h0 | h0
        · subst h0
          exact absurd (by simp [wt]) hgo
        · exact h0
      have hN : shrN most xs (k - 1) = shrN most xs xs.length := by
        obtain ⟨j, rfl⟩ : ∃ j, k = j + 1 := ⟨k - 1, by omega⟩
        have := shrN_go hgo
        rw [Nat.add_sub_cancel, ← this]
        exact HN.out
      have HNN := Lib.hid hN
      have HG := Lib.hid (show (most : Int) < ((wt (xs.take k) : Nat) : Int) by omega)
      clear hgo hN
      go_wp2_with fail
      refine (rweight_any (xs.take k) (fun f hf => hT2.out.ok f (List.mem_of_mem_take hf)) (by omega) A k c HKL.out.symm wr (reads_takeF hT2.out.reads hk)).mono ?_
      rintro e w1 ⟨rfl, hb1⟩
      have hgo := HG.out
      have HBB := Lib.hid (HB.out.trans (hb1.mono HB.out.size))
      clear hb1
      go_wp2
      go_roundw
      case rel => exact ⟨k - 1, by omega, by go_num, HNN, HBB⟩
      case measure => simp [intOf]; omega

set_option maxRecDepth 100000 in
set_option maxHeartbeats 4000000 in
theorem rall_any {w : World} {g : Nat} {A : Option Addr} {c : Nat} {xs : List Fld} {mx : Nat} (h : RTab w g A c xs mx) :
    Calls Tryd.prog 51 #[.pointer (some ⟨g, 0, none⟩)] w fun e w' => ∃ B d, e = .returned (.slice B (tAll xs).length d) ∧ (tAll xs).length ≤ d ∧ Reads w' w'.heap.size 2 B (tAll xs).length (fvs (tAll xs)) ∧ Below w.heap.size w w' := by
  obtain ⟨i0, hi, hz0, hz1, hz2⟩ := info_parts fld_info
  have HI := Lib.hid hi
  have HZ0 := Lib.hid hz0
  have HZ1 := Lib.hid hz1
  have HZ2 := Lib.hid hz2
  have hl := h.len
  have HT := Lib.hid h
  clear hi hz0 hz1 hz2 h
  go_enter Tryd.func51, Tryd.ntmps51
  go_wp2_with fail
  refine (ralways_any w).mono ?_
  rintro e w1 ⟨b, rfl, hown, hb1⟩
  have hT := HT.out.below hb1
  obtain ⟨c0, _⟩ := hT.cells
  have HO := Lib.hid hown
  have HB := Lib.hid hb1
  have HR := Lib.hid hT.reads
  have hs1 := hb1.size
  clear hT hown hb1
  go_wp2_with (at_builtin; refine wpList_append_any _ rfl _ _ 76 rfl w.heap.size 86 i0 _ 2 32 Tryd.underlying76 HI.out HZ0.out HZ1.out HZ2.out rfl (by decide) _ _ _ rfl HO.out w1.heap.size A xs.length c (fvs xs) rfl HR.out (fvs_one _) (by unfold maxLen; omega) (by omega) hs1 ?_; intro v2 w2 hown2 hg2 _)
  go_ret
  have hfv : fvs alw ++ fvs xs = fvs (tAll xs) := by rw [← fvs_append]; rfl
  rw [hfv] at hown2
  have hb2 := below_append HB.out HO.out hg2 hs1
  have hx := tAll_len xs
  rcases hown2.2 with ⟨_, h0⟩ | ⟨g', cap, cur, hv, _, _, hc, _⟩
  · omega
  · subst hv
    rw [← hx] at hown2 hc ⊢
    exact ⟨_, _, rfl, hc, reads_own hown2, hb2⟩
end Go.Proofs.YtkbbkamnmdeagaaDoor
