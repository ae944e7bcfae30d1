/-
  The reference's table behind a pointer: Add. Condition: the field's texts' lengths.
-/
import Derived.Test.YtkbbkamnmdeagaaDoorRefTab3
import Derived.Deep.RegionLaw
namespace Go.Proofs.YtkbbkamnmdeagaaDoor
open Go.RowKit
attribute [local go_sem ↓] Go.wp_at_zero Go.wp_at_succ

/-- What an add leaves of the reference's table. -/
def RAdded (w w' : World) (g : Nat) (mx : Nat) (xs : List Fld) (f : Fld) : Prop := ∃ A' c', RTab w' g A' c' (tAdd mx xs f) mx ∧ But g w w' ∧ ∀ a, A' = some a → w.heap.size ≤ a.block ∧ a.block < w'.heap.size
theorem below_ofd {w w1 : World} (hb : Below w.drew.heap.size w.drew w1) : Below w.heap.size w w1 := ⟨hb.os, hb.tape, hb.output, hb.size, hb.block⟩
theorem but_of {w w1 : World} {g : Nat} (hb : Below w.heap.size w w1) : But g w w1 := Keep.of_below hb
theorem But.nx {w w1 w2 : World} {g : Nat} (h : But g w w1) (k : But g w1 w2) : But g w w2 := h.trans k fun _ hi => .inl hi
theorem RTab.emptied {w : World} {g c mx : Nat} {A : Option Addr} {xs : List Fld} (h : RTab w g A c xs mx) : RTab (w.setCell ⟨g, 0, none⟩ (.slice none 0 0)) g none 0 [] mx := by
  refine ⟨?_, Nat.le_refl _, Reads.none_, Nat.zero_le _, h.mx, by simp⟩
  have := h.blk.set_ 0 (.slice none 0 0)
  simpa using this
theorem RTab.laid {w w1 : World} {g c c' mx : Nat} {A A' : Option Addr} {xs ys : List Fld} (h : RTab w g A c xs mx) (hb : Below w.heap.size w w1) (hc : ys.length ≤ c') (hr : Reads w1 w1.heap.size 2 A' ys.length (fvs ys)) (hw : Go.Proofs.YtkbbkamnmdeagaaDoor.wt ys ≤ 4096) (hok : ∀ f ∈ ys, fOk f) :
    RTab (w1.setCell ⟨g, 0, none⟩ (.slice A' ys.length c')) g A' c' ys mx := by
  have hk := h.blk.below hb h.blk.lt
  refine ⟨?_, hc, ?_, hw, h.mx, hok⟩
  · have := hk.set_ 0 (.slice A' ys.length c')
    simpa using this
  · have := reads_set (g := g) hr (fun h0 => reads_neR hr hk h0) 0 (.slice A' ys.length c')
    simpa using this

set_option maxRecDepth 100000 in
set_option maxHeartbeats 4000000 in
theorem radd_any {w : World} {g : Nat} {A : Option Addr} {c : Nat} {xs : List Fld} {mx : Nat} (h : RTab w g A c xs mx) (f : Fld) (hf : fOk f) :
    Calls Tryd.prog 46 #[.pointer (some ⟨g, 0, none⟩), .agg #[.string ⟨f.1.toArray⟩, .string ⟨f.2.toArray⟩]] w fun e w' => e = .returned (.bool (decide (fsz f ≤ mx))) ∧ RAdded w w' g mx xs f := by
  have hbx := (Below.refl w.heap.size w).alloc (Nat.le_refl _) (.cells #[.string ⟨f.1.toArray⟩, .string ⟨f.2.toArray⟩] 86)
  have hT := h.below hbx
  have hgw := h.blk.lt
  have hX : Blk (w.alloc (.cells #[.string ⟨f.1.toArray⟩, .string ⟨f.2.toArray⟩] 86)) w.heap.size 86 #[.string ⟨f.1.toArray⟩, .string ⟨f.2.toArray⟩] := Blk.new _ _ _
  obtain ⟨_, c1⟩ := hT.cells
  have b0 := hX.cell 0
  have b1 := hX.cell 1
  simp only [List.getElem?_toArray, List.getElem?_cons_zero, List.getElem?_cons_succ] at b0 b1
  have hmx := h.mx
  have HT := Lib.hid hT
  have HX := Lib.hid hX
  have HB := Lib.hid hbx
  clear hT hX hbx h
  by_cases hno : mx < fsz f
  · have e : decide (fsz f ≤ mx) = false := by simp; omega
    rw [e]
    have hd : decide (((mx : Nat) : Int) < ((fsz f : Nat) : Int)) = true := by simp; omega
    have HNO := Lib.hid (tAdd_no hno (xs := xs))
    clear e
    go_enter Tryd.func46, Tryd.ntmps46
    go_wp2
    generalize (w.alloc (.cells #[.string ⟨f.1.toArray⟩, .string ⟨f.2.toArray⟩] 86)) = W at *
    go_region_held3 (fun w' => w'.cell? ⟨g, 1, none⟩ = some (.int .i64 ((mx : Nat) : Int)) ∧ w'.cell? ⟨w.heap.size, 0, none⟩ = some (.string ⟨f.1.toArray⟩) ∧ w'.cell? ⟨w.heap.size, 1, none⟩ = some (.string ⟨f.2.toArray⟩))
      (first | go_keep | (exact ⟨cell_behind hb1 ‹_›, cell_behind hb1 ‹_›, cell_behind hb1 ‹_›⟩))
      (first | (go_at_call 86; refine (rsize_any f hf _).mono ?_; rintro e w1 ⟨rfl, hb1⟩))
    all_goals
      have hbW := below_ofd hb1
      have h1 := HT.out.below hbW
      obtain ⟨c0, _⟩ := h1.cells
      have f0 := h1.blk.frozen 0
      have hg1 := h1.blk.lt
      have HR := Lib.hid h1.emptied
      have HB2 := Lib.hid (HB.out.trans (hbW.mono HB.out.size))
      clear h1 hbW hb1
      go_wp2
      go_ret
      exact ⟨rfl, none, 0, by rw [HNO.out]; exact HR.out, (Keep.of_below (S := fun k => k = g) HB2.out).setCell (.inl rfl) _, fun a h => by cases h⟩
  · have e : decide (fsz f ≤ mx) = true := by simp; omega
    rw [e]
    have hd : decide (((mx : Nat) : Int) < ((fsz f : Nat) : Int)) = false := by simp; omega
    have hwr : IntKind.i64.wrap (((mx : Nat) : Int) - ((fsz f : Nat) : Int)) = ((mx - fsz f : Nat) : Int) := by
      rw [IntKind.wrap_i64]
      omega
    have HNO := Lib.hid (tAdd_yes hno (xs := xs))
    have hwa := wt_tAdd mx xs f
    have hmo : mx - fsz f ≤ 4096 := by omega
    have HWA := Lib.hid hwa
    clear e hwa
    go_enter Tryd.func46, Tryd.ntmps46
    go_wp2
    generalize (w.alloc (.cells #[.string ⟨f.1.toArray⟩, .string ⟨f.2.toArray⟩] 86)) = W at *
    go_region_held3 (fun w' => w'.cell? ⟨g, 1, none⟩ = some (.int .i64 ((mx : Nat) : Int)) ∧ w'.cell? ⟨w.heap.size, 0, none⟩ = some (.string ⟨f.1.toArray⟩) ∧ w'.cell? ⟨w.heap.size, 1, none⟩ = some (.string ⟨f.2.toArray⟩))
      (first | go_keep | (exact ⟨cell_behind hb1 ‹_›, cell_behind hb1 ‹_›, cell_behind hb1 ‹_›⟩))
      (first | (go_at_call 86; refine (rsize_any f hf _).mono ?_; rintro e w1 ⟨rfl, hb1⟩))
    all_goals
      have hbW := below_ofd hb1
      have h1 := HT.out.below hbW
      have x1 := HX.out.below hbW HX.out.lt
      obtain ⟨_, c1⟩ := h1.cells
      have b0 := x1.cell 0
      have b1 := x1.cell 1
      simp only [List.getElem?_toArray, List.getElem?_cons_zero, List.getElem?_cons_succ] at b0 b1
      have HT1 := Lib.hid h1
      have HX1 := Lib.hid x1
      have HB1 := Lib.hid (HB.out.trans (hbW.mono HB.out.size))
      clear h1 x1 hbW hb1 HT HX HB
      go_wp2
      go_region_held3 (fun w' => w'.cell? ⟨g, 1, none⟩ = some (.int .i64 ((mx : Nat) : Int)) ∧ w'.cell? ⟨w.heap.size, 0, none⟩ = some (.string ⟨f.1.toArray⟩) ∧ w'.cell? ⟨w.heap.size, 1, none⟩ = some (.string ⟨f.2.toArray⟩))
        (first | go_keep | (exact ⟨cell_behind hb2 ‹_›, cell_behind hb2 ‹_›, cell_behind hb2 ‹_›⟩) | (exact ⟨h3.cells.2, (hx3.cell 0), (hx3.cell 1)⟩))
        (first | (go_at_call 86; refine (rsize_any f hf _).mono ?_; rintro e w2 ⟨rfl, hb2⟩) | (go_at_call 47; refine (rshrink_any (HT1.out.below (below_ofd hb2)) (mx - fsz f) hmo).mono ?_; rintro e w3 ⟨rfl, h3, h4⟩; have hx3 := (HX1.out.below (below_ofd hb2) HX1.out.lt).keep h4 (fun ht => absurd hgw (by rw [← ht]; exact Nat.lt_irrefl _))))
      all_goals
        have hB3 := Lib.hid (((but_of HB1.out).nx (but_of (g := g) (below_ofd hb2))).nx h4)
        obtain ⟨ys, hys⟩ : ∃ ys, shr (mx - fsz f) xs = ys := ⟨_, rfl⟩
        rw [hys] at h3
        have HNO2 := Lib.hid (show tAdd mx xs f = f :: ys by rw [HNO.out, hys])
        have hwy : wt (f :: ys) ≤ mx := by rw [← HNO2.out]; exact HWA.out
        have hok3 : ∀ x ∈ f :: ys, fOk x := by
          intro x hx
          rcases List.mem_cons.1 hx with rfl | hx
          · exact hf
          · exact h3.ok x hx
        have hylen := h3.len
        obtain ⟨c30, _⟩ := h3.cells
        have p0 := hx3.cell 0
        have p1 := hx3.cell 1
        simp only [List.getElem?_toArray, List.getElem?_cons_zero, List.getElem?_cons_succ] at p0 p1
        have hown : (w3.alloc (.cells #[.string ⟨f.1.toArray⟩, .string ⟨f.2.toArray⟩] 86)).ownsRow w3.heap.size 86 2 (.slice (some ⟨w3.heap.size, 0, none⟩) 1 1) 1 (fv f) := World.ownsRow_lit w3 _ 1 (Nat.le_refl _) (by decide) rfl
        have hbn := (Below.refl w3.heap.size w3).alloc (Nat.le_refl _) (.cells #[.string ⟨f.1.toArray⟩, .string ⟨f.2.toArray⟩] 86)
        have hrn := h3.reads.below hbn
        have hgl3 := h3.blk.lt
        have HO := Lib.hid hown
        have HBN := Lib.hid hbn
        have HRN := Lib.hid hrn
        have H3 := Lib.hid h3
        have HOK := Lib.hid hok3
        have HWY := Lib.hid hwy
        obtain ⟨i0, hi, hz0, hz1, hz2⟩ := info_parts fld_info
        have HI := Lib.hid hi
        have HZ0 := Lib.hid hz0
        have HZ1 := Lib.hid hz1
        have HZ2 := Lib.hid hz2
        have hmono : w3.heap.size ≤ (w3.alloc (.cells #[.string ⟨f.1.toArray⟩, .string ⟨f.2.toArray⟩] 86)).heap.size := by simp
        have HMO := Lib.hid hmono
        clear hi hz0 hz1 hz2 hown hbn hrn h3 hok3 hwy hmono hb2 h4 hx3 hys HT1 HX1 HB1 HNO HWA
        go_wp2_with (at_builtin; refine wpList_append_any _ rfl _ _ 76 rfl w3.heap.size 86 i0 _ 2 32 Tryd.underlying76 HI.out HZ0.out HZ1.out HZ2.out rfl (by decide) _ _ _ rfl HO.out w3.heap.size A ys.length c (fvs ys) rfl HRN.out (fvs_one _) (by unfold maxLen; omega) (by omega) HMO.out ?_; intro v4 w4 hown4 hg4 _; obtain ⟨q, cap4, hv4, hq3, hq4⟩ := hown4.form (show 0 < 1 + ys.length by omega); subst hv4; have hb4 := Lib.hid (below_append HBN.out HO.out hg4 HMO.out); have hk4 := H3.out.blk.below hb4.out H3.out.blk.lt; have t0 := hk4.cell 0; have t1 := hk4.frozen 0; have tl := hk4.lt)
        go_ret
        have hc4 : (f :: ys).length ≤ cap4 := by
          rcases hown4.2 with ⟨h0, _⟩ | ⟨_, cap, _, hv, _, _, hc, _⟩
          · cases h0
          · injection hv with _ _ hv
            subst hv
            simp only [List.length_cons]
            omega
        have e1 : 1 + ys.length = (f :: ys).length := by simp only [List.length_cons]; omega
        rw [e1] at hown4 ⊢
        have hfin := H3.out.laid hb4.out hc4 (reads_own hown4) (by have := HWY.out; omega) HOK.out
        exact ⟨rfl, _, _, by rw [HNO2.out]; exact hfin, (hB3.out.nx (but_of hb4.out)).setCell (.inl rfl) _, fun a h => by cases h; exact ⟨Nat.le_trans hB3.out.size hq3, by simpa using hq4⟩⟩
end Go.Proofs.YtkbbkamnmdeagaaDoor
