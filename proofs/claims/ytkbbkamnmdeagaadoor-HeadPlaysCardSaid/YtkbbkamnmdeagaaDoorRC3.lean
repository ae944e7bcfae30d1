/-
  The reference's coder: a field that is no field of the table. Condition: the bound on the bytes.
-/
import Derived.Test.YtkbbkamnmdeagaaDoorRC2
import Derived.Test.YtkbbkamnmdeagaaDoorMHeadPlays22
import Derived.Test.YtkbbkamnmdeagaaDoorFrmR
namespace Go.Proofs.YtkbbkamnmdeagaaDoor
open Go.RowKit
attribute [local go_sem ↓] Go.wp_at_zero Go.wp_at_succ

theorem readT_nil : readT [] = ([], 0, 8) := by kernel_rfl
theorem fld_sizeR {a b : Value} : (Tryd.prog.info? 86).map (·.size) = some (#[a, b] : Array Value).size := by kernel_rfl
theorem cut_drop {w : World} {B bb off lc U : Nat} {b : List UInt8} (h : Reads w B 1 (some ⟨bb, off, none⟩) b.length (bs b)) (hc : b.length ≤ lc) (hU : U ≤ b.length) (hne : ¬ lc = U) : Reads w B 1 (some ⟨bb, off + U, none⟩) (b.drop U).length (bs (b.drop U)) := by
  have h1 := h.cut (k := U) (cap := lc) hU hc
  rw [if_neg hne, Nat.mul_one, bs_drop] at h1
  simpa [Addr.add_lit, List.length_drop] using h1
theorem cut_cap {b : List UInt8} {lc U U2 E : Nat} {s : List UInt8} (hc : b.length ≤ lc) (hU : U ≤ b.length) (h : readT (b.drop U) = (s, U2, 0)) : ¬ lc = U := by
  intro e
  have e2 : b.drop U = [] := List.drop_eq_nil_of_le (by omega)
  rw [e2, readT_nil] at h
  simp at h
theorem reads_zero {w : World} {B size : Nat} {A : Option Addr} : Reads w B size A 0 [] := ⟨by simp, fun h => absurd h (by omega)⟩
theorem litV_zero {ys : List Fld} {b : List UInt8} {t : Int} {f : Fld} {U E : Nat} (h : litV ys b t = (f, U, E)) (hE : E ≠ 0) : f = ([], []) ∧ U = 0 := by
  unfold litV at h
  split at h
  · cases h; exact ⟨rfl, rfl⟩
  · split at h
    · cases h; exact ⟨rfl, rfl⟩
    · split at h
      · split at h
        · cases h; exact ⟨rfl, rfl⟩
        · cases h; exact absurd rfl hE
      · split at h
        · cases h; exact ⟨rfl, rfl⟩
        · split at h
          · cases h; exact ⟨rfl, rfl⟩
          · cases h; exact absurd rfl hE

/-- Inside literal: the result's block, the field's block; all else as it lay. -/
structure RL (w wr : World) (F6 F2 : Nat) (x y : Value) : Prop where
  r6 : Blk wr F6 86 #[.string ⟨#[]⟩, .string ⟨#[]⟩]
  f2 : Blk wr F2 86 #[x, y]
  kp : Below w.heap.size w wr
  h6 : w.heap.size ≤ F6
  h2 : F6 < F2
section
variable {w wr w1 : World} {F6 F2 : Nat} {x y : Value}
theorem RL.next (h : RL w wr F6 F2 x y) (hb : Below wr.heap.size wr w1) : RL w w1 F6 F2 x y := ⟨h.r6.below hb h.r6.lt, h.f2.below hb h.f2.lt, h.kp.trans (hb.mono h.kp.size), h.h6, h.h2⟩
theorem RL.cells (h : RL w wr F6 F2 x y) : wr.cell? ⟨F6, 0, none⟩ = some (.string ⟨#[]⟩) ∧ wr.cell? ⟨F6, 1, none⟩ = some (.string ⟨#[]⟩) ∧ wr.frozen? ⟨F6, 0, none⟩ = false ∧ wr.frozen? ⟨F6, 1, none⟩ = false ∧ F6 < wr.heap.size ∧
    wr.cell? ⟨F2, 0, none⟩ = some x ∧ wr.cell? ⟨F2, 1, none⟩ = some y ∧ wr.frozen? ⟨F2, 0, none⟩ = false ∧ wr.frozen? ⟨F2, 1, none⟩ = false ∧ F2 < wr.heap.size ∧ F6 ≠ F2 :=
  ⟨h.r6.cell 0, h.r6.cell 1, h.r6.frozen 0, h.r6.frozen 1, h.r6.lt, h.f2.cell 0, h.f2.cell 1, h.f2.frozen 0, h.f2.frozen 1, h.f2.lt, by have := h.h2; omega⟩
theorem RL.set0 (h : RL w wr F6 F2 x y) (v : Value) : RL w (wr.setCell ⟨F2, 0, none⟩ v) F6 F2 v y := by
  have e1 := h.h6
  have e2 := h.h2
  refine ⟨h.r6.far (p := ⟨F2, 0, none⟩) (by show F6 ≠ F2; omega) _, ?_, h.kp.setCell (p := ⟨F2, 0, none⟩) (by show w.heap.size ≤ F2; omega) _, h.h6, h.h2⟩
  have := h.f2.set_ 0 v
  simpa using this
theorem RL.set1 (h : RL w wr F6 F2 x y) (v : Value) : RL w (wr.setCell ⟨F2, 1, none⟩ v) F6 F2 x v := by
  have e1 := h.h6
  have e2 := h.h2
  refine ⟨h.r6.far (p := ⟨F2, 1, none⟩) (by show F6 ≠ F2; omega) _, ?_, h.kp.setCell (p := ⟨F2, 1, none⟩) (by show w.heap.size ≤ F2; omega) _, h.h6, h.h2⟩
  have := h.f2.set_ 1 v
  simpa using this
/-- The result is laid. -/
theorem RL.put (h : RL w wr F6 F2 x y) (u v : Value) : Blk ((wr.setCell ⟨F6, 0, none⟩ u).setCell ⟨F6, 1, none⟩ v) F6 86 #[u, v] ∧ Below w.heap.size w ((wr.setCell ⟨F6, 0, none⟩ u).setCell ⟨F6, 1, none⟩ v) := by
  refine ⟨?_, (h.kp.setCell (p := ⟨F6, 0, none⟩) h.h6 _).setCell (p := ⟨F6, 1, none⟩) h.h6 _⟩
  have := (h.r6.set_ 0 u).set_ 1 v
  simpa using this
end

set_option maxRecDepth 100000 in
set_option maxHeartbeats 8000000 in
theorem rlit_fault {w : World} {M : Nat} {cs : Array Value} {A : Option Addr} {c : Nat} {ys : List Fld} {my : Nat} (H : CTab w M 136 cs 2 A c ys my) (b : List UInt8) (LA : Option Addr) (n lc : Nat) (hn : n = b.length) (hcap : b.length ≤ lc) (hm : b.length ≤ 140737488355328) (hr : Reads w w.heap.size 1 LA b.length (bs b)) (t : Int) (f : Fld) (U E : Nat) (hV : litV ys b t = (f, U, E)) (hE : E ≠ 0) :
    Calls Tryd.prog 102 #[.pointer (some ⟨M, 0, none⟩), .slice LA n lc, .int .i64 t] w fun e w' => e = .returned (.tuple #[.agg #[.string ⟨#[]⟩, .string ⟨#[]⟩], .int .i64 ((0 : Nat) : Int), .int .i64 ((E : Nat) : Int)]) ∧ Below w.heap.size w w' := by
  have hcase := litV_bad hV hE
  subst hn
  obtain ⟨W0, hW0⟩ : ∃ W0, w.alloc (.cells #[.string ⟨#[]⟩, .string ⟨#[]⟩] 86) = W0 := ⟨_, rfl⟩
  obtain ⟨F6, hF6⟩ : ∃ F6, w.heap.size = F6 := ⟨_, rfl⟩
  have hb0 : Below w.heap.size w W0 := by rw [← hW0]; exact (Below.refl _ _).alloc (Nat.le_refl _) _
  have hk6 : Blk W0 F6 86 #[.string ⟨#[]⟩, .string ⟨#[]⟩] := by rw [← hW0, ← hF6]; exact Blk.new w _ _
  have HR0 := Lib.hid ((hr.below hb0).more hb0.size)
  have HH := Lib.hid (H.below hb0)
  have HB0 := Lib.hid hb0
  have HK6 := Lib.hid hk6
  have HW0 := Lib.hid hW0
  have HF6 := Lib.hid hF6
  have HE := Lib.hid hE
  clear hb0 hk6 hW0 hF6 H hV hE
  rcases hcase with hg | ⟨N, U1, hg, hcase⟩
  · have HG := Lib.hid hg
    have hE' : ¬ ((E : Nat) : Int) = 0 := by have := HE.out; omega
    have hE2 : (((E : Nat) : Int) == 0) = false := by simpa using HE.out
    have hE3 : (((E : Nat) : Int) != 0) = true := by simpa using HE.out
    have hp6 := HK6.out
    have z0 := hp6.cell 0
    have z1 := hp6.cell 1
    have y0 := hp6.frozen 0
    have y1 := hp6.frozen 1
    have zl := hp6.lt
    have hput : Blk ((W0.setCell ⟨F6, 0, none⟩ (.string ⟨#[]⟩)).setCell ⟨F6, 1, none⟩ (.string ⟨#[]⟩)) F6 86 #[.string ⟨#[]⟩, .string ⟨#[]⟩] := by
      have := (hp6.set_ 0 (.string ⟨#[]⟩)).set_ 1 (.string ⟨#[]⟩)
      simpa using this
    have HPUT := Lib.hid hput
    have HBP := Lib.hid (show Below w.heap.size w ((W0.setCell ⟨F6, 0, none⟩ (.string ⟨#[]⟩)).setCell ⟨F6, 1, none⟩ (.string ⟨#[]⟩)) from (HB0.out.setCell (p := ⟨F6, 0, none⟩) (by show w.heap.size ≤ F6; rw [HF6.out]; exact Nat.le_refl _) _).setCell (p := ⟨F6, 1, none⟩) (by show w.heap.size ≤ F6; rw [HF6.out]; exact Nat.le_refl _) _)
    clear hg hr hp6 hput
    go_enter Tryd.func102, Tryd.ntmps102
    go_wp2_with fail
    rw [HW0.out, HF6.out]
    refine (rget_any b t LA _ lc rfl hm _ _ HR0.out).mono ?_
    rintro e w' ⟨rfl, rfl⟩
    rw [HG.out]
    go_wp2
    refine bodyPost_ret (results_cell_tmp2 rfl _ _ F6 _ _ _ rfl (HPUT.out) Tryd.underlying86 rfl fld_sizeR) rfl ?_
    exact ⟨rfl, HBP.out⟩
  · have hu := getV_used (l := b) (t := t) (by rw [hg])
    rw [hg] at hu
    simp only at hu
    obtain ⟨hu1, hu2, hu3⟩ := hu
    obtain ⟨bb, off, yy, rfl, hbB, -⟩ := reads_head HR0.out (by omega)
    have HG := Lib.hid hg
    have HTL := Lib.hid (tAll_len ys)
    clear hg
    obtain ⟨F2, hF2⟩ : ∃ F2, W0.heap.size = F2 := ⟨_, rfl⟩
    obtain ⟨W1, hW1⟩ : ∃ W1, W0.alloc (.cells #[.string ⟨#[]⟩, .string ⟨#[]⟩] 86) = W1 := ⟨_, rfl⟩
    have hb1 : Below W0.heap.size W0 W1 := by rw [← hW1]; exact (Below.refl _ _).alloc (Nat.le_refl _) _
    have hL1 : RL w W1 F6 F2 (.string ⟨#[]⟩) (.string ⟨#[]⟩) := ⟨HK6.out.below hb1 HK6.out.lt, by rw [← hW1, ← hF2]; exact Blk.new W0 _ _, HB0.out.trans (hb1.mono HB0.out.size), by rw [HF6.out]; exact Nat.le_refl _, by have := HK6.out.lt; omega⟩
    have HL1 := Lib.hid hL1
    have HH1 := Lib.hid (HH.out.below hb1)
    have HR1 := Lib.hid ((HR0.out.below hb1).more hb1.size)
    have HW1 := Lib.hid hW1
    have HF2 := Lib.hid hF2
    clear hF2 hW1 hb1 hL1
    rcases hcase with ⟨hN, rfl⟩ | ⟨hN0, hN, hv⟩ | ⟨rfl, hv⟩ | ⟨rfl, nm, U2, hnm, hv⟩
    · have i1 : (((tAll ys).length : Nat) : Int) < ((N : Nat) : Int) := by have := HTL.out; omega
      have i2 := decide_eq_true i1
      have i3 := decide_eq_true (show (tAll ys).length < N by have := HTL.out; omega)
      go_enter Tryd.func102, Tryd.ntmps102
      go_wp2_with fail
      rw [HW0.out, HF6.out]
      refine (rget_any b t _ _ lc rfl hm _ _ HR0.out).mono ?_
      rintro e w' ⟨rfl, rfl⟩
      rw [HG.out]
      go_wp2_with fail
      rw [HW1.out, HF2.out]
      refine (call_any HH1.out).mono ?_
      rintro e w2 ⟨B2, d2, rfl, hd2, hr2, hb2⟩
      have hL2 := HL1.out.next hb2
      have HR2 := Lib.hid ((HR1.out.below hb2).more hb2.size)
      have HL2 := Lib.hid hL2
      obtain ⟨z0, z1, y0, y1, zl, x0, x1, v0, v1, xl, hne⟩ := hL2.cells
      clear hd2 hr2 hb2 hL2
      have hput := HL2.out.put (.string ⟨#[]⟩) (.string ⟨#[]⟩)
      have HPUT := Lib.hid hput
      clear hput
      go_wp2
      refine bodyPost_ret (results_cell_tmp2 rfl _ _ F6 _ _ _ rfl (HPUT.out.1) Tryd.underlying86 rfl fld_sizeR) rfl ?_
      exact ⟨rfl, HPUT.out.2⟩
    · have HV := Lib.hid hv
      obtain ⟨f0, hf0⟩ : ∃ f0, (tAll ys).getD (N - 1) ([], []) = f0 := ⟨_, rfl⟩
      have i1 : ¬ (((tAll ys).length : Nat) : Int) < ((N : Nat) : Int) := by have := HTL.out; omega
      have i2 := decide_eq_false i1
      have i3 := decide_eq_false (show ¬ (tAll ys).length < N by have := HTL.out; omega)
      obtain ⟨k, rfl⟩ : ∃ k, N = k + 1 := ⟨N - 1, by omega⟩
      have HF0 := Lib.hid (show (tAll ys).getD k ([], []) = f0 from hf0)
      have hk : k < (tAll ys).length := by have := HTL.out; omega
      have hwk : wrap64 (((k + 1 : Nat) : Int) - 1) = ((k : Nat) : Int) := by
        unfold wrap64
        omega
      have hk1 : (0 : Int) < ((k + 1 : Nat) : Int) := by omega
      have hk2 := decide_eq_true hk1
      have hk3 := decide_eq_true (show 0 < k + 1 by omega)
      have hki1 : (0 : Int) ≤ ((k : Nat) : Int) := by omega
      have hki2 : ((k : Nat) : Int) < (((tAll ys).length : Nat) : Int) := by omega
      clear hv hf0
      go_enter Tryd.func102, Tryd.ntmps102
      go_wp2_with fail
      rw [HW0.out, HF6.out]
      refine (rget_any b t _ _ lc rfl hm _ _ HR0.out).mono ?_
      rintro e w' ⟨rfl, rfl⟩
      rw [HG.out]
      go_wp2_with fail
      rw [HW1.out, HF2.out]
      refine (call_any HH1.out).mono ?_
      rintro e w2 ⟨B2, d2, rfl, hd2, hr2, hb2⟩
      have hL2 := HL1.out.next hb2
      have HR2 := Lib.hid ((HR1.out.below hb2).more hb2.size)
      have HL2 := Lib.hid hL2
      obtain ⟨z0, z1, y0, y1, zl, x0, x1, v0, v1, xl, hne⟩ := hL2.cells
      obtain ⟨b2, o2, rfl, hb2l, hcl2⟩ := reads_fld hr2 (by omega)
      have n0 := (hcl2 k hk).1
      have hnm : (tAll ys)[k] = f0 := by rw [← HF0.out, List.getD_eq_getElem?_getD, List.getElem?_eq_getElem hk]; rfl
      rw [hnm] at n0
      have HL3 := Lib.hid (HL2.out.set0 (.string ⟨f0.1.toArray⟩))
      clear hcl2 hr2 hb2 hL2 hnm
      go_upto_region 15 with fail
      obtain ⟨W3, hW3⟩ : ∃ W3, w2.setCell ⟨F2, 0, none⟩ (.string ⟨f0.1.toArray⟩) = W3 := ⟨_, rfl⟩
      rw [hW3]
      have HR3 := Lib.hid (show Reads W3 W3.heap.size 1 (some ⟨bb, off, none⟩) b.length (bs b) by
        have hk0 : Below w.heap.size w W3 := by rw [← hW3]; exact HL3.out.kp
        exact (hr.below hk0).more hk0.size)
      have HL3 := Lib.hid (show RL w W3 F6 F2 (.string ⟨f0.1.toArray⟩) (.string ⟨#[]⟩) by rw [← hW3]; exact HL3.out)
      clear hW3 n0 z0 z1 y0 y1 zl x0 x1 v0 v1 xl hne hwk hk1 hk2 hk3 hki1 hki2 i1 i2 i3 HR2 HL2
      by_cases hcU : lc = U1
      · have hbl : b.length = U1 := by omega
        have h8 : E = 8 := by
          have h1 := HV.out
          rw [show b.drop (U1) = [] from List.drop_eq_nil_of_le (by omega), readT_nil] at h1
          simp at h1
          omega
        subst h8
        rw [hcU, ← hbl]
        clear hcU hbl
        go_wp2_with fail
        refine (rreadT_any [] (some ⟨bb, off, none⟩) 0 0 rfl (Nat.le_refl _) (by simp) W3 reads_zero).mono ?_
        rintro e wk ⟨rfl, hbk⟩
        rw [readT_nil]
        have hLk := HL3.out.next hbk
        have HLk := Lib.hid hLk
        obtain ⟨z0, z1, y0, y1, zl, x0, x1, v0, v1, xl, hne⟩ := hLk.cells
        clear hbk hLk
        have hput := HLk.out.put (.string ⟨#[]⟩) (.string ⟨#[]⟩)
        have HPUT := Lib.hid hput
        clear hput
        go_wp2
        refine bodyPost_ret (results_cell_tmp2 rfl _ _ F6 _ _ _ rfl (HPUT.out.1) Tryd.underlying86 rfl fld_sizeR) rfl ?_
        exact ⟨rfl, HPUT.out.2⟩
      · go_wp2_with fail
        refine (rreadT_any (b.drop (U1)) (some ⟨bb, off + (U1), none⟩) _ (lc - (U1)) (by rw [List.length_drop]) (by rw [List.length_drop]; omega) (by rw [List.length_drop]; omega) W3 (cut_drop HR3.out hcap (by omega) (by omega))).mono ?_
        rintro e wk ⟨rfl, hbk⟩
        rw [HV.out]
        have hLk := HL3.out.next hbk
        have HLk := Lib.hid hLk
        have HRk := Lib.hid ((HR3.out.below hbk).more hbk.size)
        obtain ⟨z0, z1, y0, y1, zl, x0, x1, v0, v1, xl, hne⟩ := hLk.cells
        clear hbk hLk
        have hE' : ¬ ((E : Nat) : Int) = 0 := by have := HE.out; omega
        have hE2 : (((E : Nat) : Int) == 0) = false := by simpa using HE.out
        have hE3 : (((E : Nat) : Int) != 0) = true := by simpa using HE.out
        have hput := HLk.out.put (.string ⟨#[]⟩) (.string ⟨#[]⟩)
        have HPUT := Lib.hid hput
        clear hput
        go_wp2
        refine bodyPost_ret (results_cell_tmp2 rfl _ _ F6 _ _ _ rfl (HPUT.out.1) Tryd.underlying86 rfl fld_sizeR) rfl ?_
        exact ⟨rfl, HPUT.out.2⟩
    · have HV := Lib.hid hv
      have i1 : ¬ (((tAll ys).length : Nat) : Int) < ((0 : Nat) : Int) := by have := HTL.out; omega
      have i2 := decide_eq_false i1
      have i3 := decide_eq_false (show ¬ (tAll ys).length < 0 by have := HTL.out; omega)
      clear hv
      go_enter Tryd.func102, Tryd.ntmps102
      go_wp2_with fail
      rw [HW0.out, HF6.out]
      refine (rget_any b t _ _ lc rfl hm _ _ HR0.out).mono ?_
      rintro e w' ⟨rfl, rfl⟩
      rw [HG.out]
      go_wp2_with fail
      rw [HW1.out, HF2.out]
      refine (call_any HH1.out).mono ?_
      rintro e w2 ⟨B2, d2, rfl, hd2, hr2, hb2⟩
      have hL2 := HL1.out.next hb2
      have HR2 := Lib.hid ((HR1.out.below hb2).more hb2.size)
      have HL2 := Lib.hid hL2
      obtain ⟨z0, z1, y0, y1, zl, x0, x1, v0, v1, xl, hne⟩ := hL2.cells
      clear hr2 hb2 hL2
      go_upto_region 10 with fail
      clear i1 i2 i3 z0 z1 y0 y1 zl x0 x1 v0 v1 xl hne
      by_cases hcU : lc = U1
      · have hbl : b.length = U1 := by omega
        have h8 : E = 8 := by
          have h1 := HV.out
          rw [show b.drop (U1) = [] from List.drop_eq_nil_of_le (by omega), readT_nil] at h1
          simp at h1
          omega
        subst h8
        rw [hcU, ← hbl]
        clear hcU hbl
        go_wp2_with fail
        refine (rreadT_any [] (some ⟨bb, off, none⟩) 0 0 rfl (Nat.le_refl _) (by simp) w2 reads_zero).mono ?_
        rintro e wk ⟨rfl, hbk⟩
        rw [readT_nil]
        have hLk := HL2.out.next hbk
        have HLk := Lib.hid hLk
        obtain ⟨z0, z1, y0, y1, zl, x0, x1, v0, v1, xl, hne⟩ := hLk.cells
        clear hbk hLk
        have hput := HLk.out.put (.string ⟨#[]⟩) (.string ⟨#[]⟩)
        have HPUT := Lib.hid hput
        clear hput
        go_wp2
        refine bodyPost_ret (results_cell_tmp2 rfl _ _ F6 _ _ _ rfl (HPUT.out.1) Tryd.underlying86 rfl fld_sizeR) rfl ?_
        exact ⟨rfl, HPUT.out.2⟩
      · go_wp2_with fail
        refine (rreadT_any (b.drop (U1)) (some ⟨bb, off + (U1), none⟩) _ (lc - (U1)) (by rw [List.length_drop]) (by rw [List.length_drop]; omega) (by rw [List.length_drop]; omega) w2 (cut_drop HR2.out hcap (by omega) (by omega))).mono ?_
        rintro e wk ⟨rfl, hbk⟩
        rw [HV.out]
        have hLk := HL2.out.next hbk
        have HLk := Lib.hid hLk
        have HRk := Lib.hid ((HR2.out.below hbk).more hbk.size)
        obtain ⟨z0, z1, y0, y1, zl, x0, x1, v0, v1, xl, hne⟩ := hLk.cells
        clear hbk hLk
        have hE' : ¬ ((E : Nat) : Int) = 0 := by have := HE.out; omega
        have hE2 : (((E : Nat) : Int) == 0) = false := by simpa using HE.out
        have hE3 : (((E : Nat) : Int) != 0) = true := by simpa using HE.out
        have hput := HLk.out.put (.string ⟨#[]⟩) (.string ⟨#[]⟩)
        have HPUT := Lib.hid hput
        clear hput
        go_wp2
        refine bodyPost_ret (results_cell_tmp2 rfl _ _ F6 _ _ _ rfl (HPUT.out.1) Tryd.underlying86 rfl fld_sizeR) rfl ?_
        exact ⟨rfl, HPUT.out.2⟩
    · have HV := Lib.hid hv
      have HNM := Lib.hid hnm
      have hu4 := (readT_used (l := b.drop U1) (by rw [hnm])).2.1
      rw [hnm, List.length_drop] at hu4
      simp only at hu4
      have hc1 : ¬ lc = U1 := cut_cap (E := 0) hcap hu2 hnm
      have i1 : ¬ (((tAll ys).length : Nat) : Int) < ((0 : Nat) : Int) := by have := HTL.out; omega
      have i2 := decide_eq_false i1
      have i3 := decide_eq_false (show ¬ (tAll ys).length < 0 by have := HTL.out; omega)
      clear hv hnm
      go_enter Tryd.func102, Tryd.ntmps102
      go_wp2_with fail
      rw [HW0.out, HF6.out]
      refine (rget_any b t _ _ lc rfl hm _ _ HR0.out).mono ?_
      rintro e w' ⟨rfl, rfl⟩
      rw [HG.out]
      go_wp2_with fail
      rw [HW1.out, HF2.out]
      refine (call_any HH1.out).mono ?_
      rintro e w2 ⟨B2, d2, rfl, hd2, hr2, hb2⟩
      have hL2 := HL1.out.next hb2
      have HR2 := Lib.hid ((HR1.out.below hb2).more hb2.size)
      have HL2 := Lib.hid hL2
      obtain ⟨z0, z1, y0, y1, zl, x0, x1, v0, v1, xl, hne⟩ := hL2.cells
      clear hr2 hb2 hL2
      go_upto_region 10 with fail
      clear i1 i2 i3 z0 z1 y0 y1 zl x0 x1 v0 v1 xl hne
      go_wp2_with fail
      refine (rreadT_any (b.drop (U1)) (some ⟨bb, off + (U1), none⟩) _ (lc - (U1)) (by rw [List.length_drop]) (by rw [List.length_drop]; omega) (by rw [List.length_drop]; omega) w2 (cut_drop HR2.out hcap (by omega) (by omega))).mono ?_
      rintro e wk ⟨rfl, hbk⟩
      rw [HNM.out]
      have hLk := HL2.out.next hbk
      have HLk := Lib.hid hLk
      have HRk := Lib.hid ((HR2.out.below hbk).more hbk.size)
      obtain ⟨z0, z1, y0, y1, zl, x0, x1, v0, v1, xl, hne⟩ := hLk.cells
      clear hbk hLk
      have HL3 := Lib.hid (HLk.out.set0 (.string ⟨nm.toArray⟩))
      go_upto_region 15 with fail
      obtain ⟨W3, hW3⟩ : ∃ W3, wk.setCell ⟨F2, 0, none⟩ (.string ⟨nm.toArray⟩) = W3 := ⟨_, rfl⟩
      rw [hW3]
      have HR3 := Lib.hid (show Reads W3 W3.heap.size 1 (some ⟨bb, off, none⟩) b.length (bs b) by
        have hk0 : Below w.heap.size w W3 := by rw [← hW3]; exact HL3.out.kp
        exact (hr.below hk0).more hk0.size)
      have HL3 := Lib.hid (show RL w W3 F6 F2 (.string ⟨nm.toArray⟩) (.string ⟨#[]⟩) by rw [← hW3]; exact HL3.out)
      clear hW3 z0 z1 y0 y1 zl x0 x1 v0 v1 xl hne HRk HLk HR2 HL2
      by_cases hcU : lc = U1 + U2
      · have hbl : b.length = U1 + U2 := by omega
        have h8 : E = 8 := by
          have h1 := HV.out
          rw [show b.drop (U1 + U2) = [] from List.drop_eq_nil_of_le (by omega), readT_nil] at h1
          simp at h1
          omega
        subst h8
        rw [hcU, ← hbl]
        rw [show ((U1 : Nat) : Int) + ((U2 : Nat) : Int) = ((b.length : Nat) : Int) by omega]
        clear hcU hbl
        go_wp2_with fail
        refine (rreadT_any [] (some ⟨bb, off, none⟩) 0 0 rfl (Nat.le_refl _) (by simp) W3 reads_zero).mono ?_
        rintro e wk ⟨rfl, hbk⟩
        rw [readT_nil]
        have hLk := HL3.out.next hbk
        have HLk := Lib.hid hLk
        obtain ⟨z0, z1, y0, y1, zl, x0, x1, v0, v1, xl, hne⟩ := hLk.cells
        clear hbk hLk
        have hput := HLk.out.put (.string ⟨#[]⟩) (.string ⟨#[]⟩)
        have HPUT := Lib.hid hput
        clear hput
        go_wp2
        refine bodyPost_ret (results_cell_tmp2 rfl _ _ F6 _ _ _ rfl (HPUT.out.1) Tryd.underlying86 rfl fld_sizeR) rfl ?_
        exact ⟨rfl, HPUT.out.2⟩
      · go_wp2_with fail
        refine (rreadT_any (b.drop (U1 + U2)) (some ⟨bb, off + (U1 + U2), none⟩) _ (lc - (U1 + U2)) (by rw [List.length_drop]) (by rw [List.length_drop]; omega) (by rw [List.length_drop]; omega) W3 (cut_drop HR3.out hcap (by omega) (by omega))).mono ?_
        rintro e wk ⟨rfl, hbk⟩
        rw [HV.out]
        have hLk := HL3.out.next hbk
        have HLk := Lib.hid hLk
        have HRk := Lib.hid ((HR3.out.below hbk).more hbk.size)
        obtain ⟨z0, z1, y0, y1, zl, x0, x1, v0, v1, xl, hne⟩ := hLk.cells
        clear hbk hLk
        have hE' : ¬ ((E : Nat) : Int) = 0 := by have := HE.out; omega
        have hE2 : (((E : Nat) : Int) == 0) = false := by simpa using HE.out
        have hE3 : (((E : Nat) : Int) != 0) = true := by simpa using HE.out
        have hput := HLk.out.put (.string ⟨#[]⟩) (.string ⟨#[]⟩)
        have HPUT := Lib.hid hput
        clear hput
        go_wp2
        refine bodyPost_ret (results_cell_tmp2 rfl _ _ F6 _ _ _ rfl (HPUT.out.1) Tryd.underlying86 rfl fld_sizeR) rfl ?_
        exact ⟨rfl, HPUT.out.2⟩

set_option maxRecDepth 100000 in
set_option maxHeartbeats 8000000 in
theorem rlit_ok {w : World} {M : Nat} {cs : Array Value} {A : Option Addr} {c : Nat} {ys : List Fld} {my : Nat} (H : CTab w M 136 cs 2 A c ys my) (b : List UInt8) (LA : Option Addr) (n lc : Nat) (hn : n = b.length) (hcap : b.length ≤ lc) (hm : b.length ≤ 140737488355328) (hr : Reads w w.heap.size 1 LA b.length (bs b)) (t : Int) (f : Fld) (U : Nat) (hV : litV ys b t = (f, U, 0)) :
    Calls Tryd.prog 102 #[.pointer (some ⟨M, 0, none⟩), .slice LA n lc, .int .i64 t] w fun e w' => e = .returned (.tuple #[.agg #[.string ⟨f.1.toArray⟩, .string ⟨f.2.toArray⟩], .int .i64 ((U : Nat) : Int), .int .i64 ((0 : Nat) : Int)]) ∧ Below w.heap.size w w' := by
  obtain ⟨N, U1, hg, hN, hcase⟩ := litV_ok hV
  subst hn
  obtain ⟨W0, hW0⟩ : ∃ W0, w.alloc (.cells #[.string ⟨#[]⟩, .string ⟨#[]⟩] 86) = W0 := ⟨_, rfl⟩
  obtain ⟨F6, hF6⟩ : ∃ F6, w.heap.size = F6 := ⟨_, rfl⟩
  have hb0 : Below w.heap.size w W0 := by rw [← hW0]; exact (Below.refl _ _).alloc (Nat.le_refl _) _
  have hk6 : Blk W0 F6 86 #[.string ⟨#[]⟩, .string ⟨#[]⟩] := by rw [← hW0, ← hF6]; exact Blk.new w _ _
  have HR0 := Lib.hid ((hr.below hb0).more hb0.size)
  have HH := Lib.hid (H.below hb0)
  have HB0 := Lib.hid hb0
  have HK6 := Lib.hid hk6
  have HW0 := Lib.hid hW0
  have HF6 := Lib.hid hF6
  clear hb0 hk6 hW0 hF6 H hV
  have hu := getV_used (l := b) (t := t) (by rw [hg])
  rw [hg] at hu
  simp only at hu
  obtain ⟨hu1, hu2, hu3⟩ := hu
  obtain ⟨bb, off, yy, rfl, hbB, -⟩ := reads_head HR0.out (by omega)
  have HG := Lib.hid hg
  have HTL := Lib.hid (tAll_len ys)
  clear hg
  obtain ⟨F2, hF2⟩ : ∃ F2, W0.heap.size = F2 := ⟨_, rfl⟩
  obtain ⟨W1, hW1⟩ : ∃ W1, W0.alloc (.cells #[.string ⟨#[]⟩, .string ⟨#[]⟩] 86) = W1 := ⟨_, rfl⟩
  have hb1 : Below W0.heap.size W0 W1 := by rw [← hW1]; exact (Below.refl _ _).alloc (Nat.le_refl _) _
  have hL1 : RL w W1 F6 F2 (.string ⟨#[]⟩) (.string ⟨#[]⟩) := ⟨HK6.out.below hb1 HK6.out.lt, by rw [← hW1, ← hF2]; exact Blk.new W0 _ _, HB0.out.trans (hb1.mono HB0.out.size), by rw [HF6.out]; exact Nat.le_refl _, by have := HK6.out.lt; omega⟩
  have HL1 := Lib.hid hL1
  have HH1 := Lib.hid (HH.out.below hb1)
  have HR1 := Lib.hid ((HR0.out.below hb1).more hb1.size)
  have HW1 := Lib.hid hW1
  have HF2 := Lib.hid hF2
  clear hF2 hW1 hb1 hL1
  rcases hcase with ⟨hN0, v, U2, hv, rfl, rfl⟩ | ⟨rfl, nm, U2, v, U3, hnm, hv, rfl, rfl⟩
  · have HV := Lib.hid hv
    obtain ⟨f0, hf0⟩ : ∃ f0, (tAll ys).getD (N - 1) ([], []) = f0 := ⟨_, rfl⟩
    rw [hf0]
    have hu3' := (readT_used (l := b.drop U1) (by rw [hv])).2.1
    rw [hv, List.length_drop] at hu3'
    simp only at hu3'
    have hc1 : ¬ lc = U1 := cut_cap (E := 0) hcap hu2 hv
    have i1 : ¬ (((tAll ys).length : Nat) : Int) < ((N : Nat) : Int) := by have := HTL.out; omega
    have i2 := decide_eq_false i1
    have i3 := decide_eq_false (show ¬ (tAll ys).length < N by have := HTL.out; omega)
    obtain ⟨k, rfl⟩ : ∃ k, N = k + 1 := ⟨N - 1, by omega⟩
    have HF0 := Lib.hid (show (tAll ys).getD k ([], []) = f0 from hf0)
    have hk : k < (tAll ys).length := by have := HTL.out; omega
    have hwk : wrap64 (((k + 1 : Nat) : Int) - 1) = ((k : Nat) : Int) := by
      unfold wrap64
      omega
    have hk1 : (0 : Int) < ((k + 1 : Nat) : Int) := by omega
    have hk2 := decide_eq_true hk1
    have hk3 := decide_eq_true (show 0 < k + 1 by omega)
    have hki1 : (0 : Int) ≤ ((k : Nat) : Int) := by omega
    have hki2 : ((k : Nat) : Int) < (((tAll ys).length : Nat) : Int) := by omega
    clear hv hf0
    go_enter Tryd.func102, Tryd.ntmps102
    go_wp2_with fail
    rw [HW0.out, HF6.out]
    refine (rget_any b t _ _ lc rfl hm _ _ HR0.out).mono ?_
    rintro e w' ⟨rfl, rfl⟩
    rw [HG.out]
    go_wp2_with fail
    rw [HW1.out, HF2.out]
    refine (call_any HH1.out).mono ?_
    rintro e w2 ⟨B2, d2, rfl, hd2, hr2, hb2⟩
    have hL2 := HL1.out.next hb2
    have HR2 := Lib.hid ((HR1.out.below hb2).more hb2.size)
    have HL2 := Lib.hid hL2
    obtain ⟨z0, z1, y0, y1, zl, x0, x1, v0, v1, xl, hne⟩ := hL2.cells
    obtain ⟨b2, o2, rfl, hb2l, hcl2⟩ := reads_fld hr2 (by omega)
    have n0 := (hcl2 k hk).1
    have hnm : (tAll ys)[k] = f0 := by rw [← HF0.out, List.getD_eq_getElem?_getD, List.getElem?_eq_getElem hk]; rfl
    rw [hnm] at n0
    have HL3 := Lib.hid (HL2.out.set0 (.string ⟨f0.1.toArray⟩))
    clear hcl2 hr2 hb2 hL2 hnm
    go_upto_region 15 with fail
    obtain ⟨W3, hW3⟩ : ∃ W3, w2.setCell ⟨F2, 0, none⟩ (.string ⟨f0.1.toArray⟩) = W3 := ⟨_, rfl⟩
    rw [hW3]
    have HR3 := Lib.hid (show Reads W3 W3.heap.size 1 (some ⟨bb, off, none⟩) b.length (bs b) by
      have hk0 : Below w.heap.size w W3 := by rw [← hW3]; exact HL3.out.kp
      exact (hr.below hk0).more hk0.size)
    have HL3 := Lib.hid (show RL w W3 F6 F2 (.string ⟨f0.1.toArray⟩) (.string ⟨#[]⟩) by rw [← hW3]; exact HL3.out)
    clear hW3 n0 z0 z1 y0 y1 zl x0 x1 v0 v1 xl hne hwk hk1 hk2 hk3 hki1 hki2 i1 i2 i3 HR2 HL2
    go_wp2_with fail
    refine (rreadT_any (b.drop (U1)) (some ⟨bb, off + (U1), none⟩) _ (lc - (U1)) (by rw [List.length_drop]) (by rw [List.length_drop]; omega) (by rw [List.length_drop]; omega) W3 (cut_drop HR3.out hcap (by omega) (by omega))).mono ?_
    rintro e wk ⟨rfl, hbk⟩
    rw [HV.out]
    have hLk := HL3.out.next hbk
    have HLk := Lib.hid hLk
    have HRk := Lib.hid ((HR3.out.below hbk).more hbk.size)
    obtain ⟨z0, z1, y0, y1, zl, x0, x1, v0, v1, xl, hne⟩ := hLk.cells
    clear hbk hLk
    have HL5 := Lib.hid (HLk.out.set1 (.string ⟨v.toArray⟩))
    go_upto_region 19 with fail
    obtain ⟨W5, hW5⟩ : ∃ W5, wk.setCell ⟨F2, 1, none⟩ (.string ⟨v.toArray⟩) = W5 := ⟨_, rfl⟩
    rw [hW5]
    have HL5 := Lib.hid (show RL w W5 F6 F2 (.string ⟨f0.1.toArray⟩) (.string ⟨v.toArray⟩) by rw [← hW5]; exact HL5.out)
    clear hW5 z0 z1 y0 y1 zl x0 x1 v0 v1 xl hne
    obtain ⟨z0, z1, y0, y1, zl, x0, x1, v0, v1, xl, hne⟩ := HL5.out.cells
    have hput := HL5.out.put (.string ⟨f0.1.toArray⟩) (.string ⟨v.toArray⟩)
    have HPUT := Lib.hid hput
    clear hput
    go_wp2
    refine bodyPost_ret (results_cell_tmp2 rfl _ _ F6 _ _ _ rfl (HPUT.out.1) Tryd.underlying86 rfl fld_sizeR) rfl ?_
    exact ⟨rfl, HPUT.out.2⟩
  · have HV := Lib.hid hv
    have HNM := Lib.hid hnm
    have hu4 := (readT_used (l := b.drop U1) (by rw [hnm])).2.1
    rw [hnm, List.length_drop] at hu4
    simp only at hu4
    have hc1 : ¬ lc = U1 := cut_cap (E := 0) hcap hu2 hnm
    have hu5 := (readT_used (l := b.drop (U1 + U2)) (by rw [hv])).2.1
    rw [hv, List.length_drop] at hu5
    simp only at hu5
    have hc2 : ¬ lc = U1 + U2 := cut_cap (E := 0) hcap (by omega) hv
    have i1 : ¬ (((tAll ys).length : Nat) : Int) < ((0 : Nat) : Int) := by have := HTL.out; omega
    have i2 := decide_eq_false i1
    have i3 := decide_eq_false (show ¬ (tAll ys).length < 0 by have := HTL.out; omega)
    clear hv hnm
    go_enter Tryd.func102, Tryd.ntmps102
    go_wp2_with fail
    rw [HW0.out, HF6.out]
    refine (rget_any b t _ _ lc rfl hm _ _ HR0.out).mono ?_
    rintro e w' ⟨rfl, rfl⟩
    rw [HG.out]
    go_wp2_with fail
    rw [HW1.out, HF2.out]
    refine (call_any HH1.out).mono ?_
    rintro e w2 ⟨B2, d2, rfl, hd2, hr2, hb2⟩
    have hL2 := HL1.out.next hb2
    have HR2 := Lib.hid ((HR1.out.below hb2).more hb2.size)
    have HL2 := Lib.hid hL2
    obtain ⟨z0, z1, y0, y1, zl, x0, x1, v0, v1, xl, hne⟩ := hL2.cells
    clear hr2 hb2 hL2
    go_upto_region 10 with fail
    clear i1 i2 i3 z0 z1 y0 y1 zl x0 x1 v0 v1 xl hne
    go_wp2_with fail
    refine (rreadT_any (b.drop (U1)) (some ⟨bb, off + (U1), none⟩) _ (lc - (U1)) (by rw [List.length_drop]) (by rw [List.length_drop]; omega) (by rw [List.length_drop]; omega) w2 (cut_drop HR2.out hcap (by omega) (by omega))).mono ?_
    rintro e wk ⟨rfl, hbk⟩
    rw [HNM.out]
    have hLk := HL2.out.next hbk
    have HLk := Lib.hid hLk
    have HRk := Lib.hid ((HR2.out.below hbk).more hbk.size)
    obtain ⟨z0, z1, y0, y1, zl, x0, x1, v0, v1, xl, hne⟩ := hLk.cells
    clear hbk hLk
    have HL3 := Lib.hid (HLk.out.set0 (.string ⟨nm.toArray⟩))
    go_upto_region 15 with fail
    obtain ⟨W3, hW3⟩ : ∃ W3, wk.setCell ⟨F2, 0, none⟩ (.string ⟨nm.toArray⟩) = W3 := ⟨_, rfl⟩
    rw [hW3]
    have HR3 := Lib.hid (show Reads W3 W3.heap.size 1 (some ⟨bb, off, none⟩) b.length (bs b) by
      have hk0 : Below w.heap.size w W3 := by rw [← hW3]; exact HL3.out.kp
      exact (hr.below hk0).more hk0.size)
    have HL3 := Lib.hid (show RL w W3 F6 F2 (.string ⟨nm.toArray⟩) (.string ⟨#[]⟩) by rw [← hW3]; exact HL3.out)
    clear hW3 z0 z1 y0 y1 zl x0 x1 v0 v1 xl hne HRk HLk HR2 HL2
    go_wp2_with fail
    refine (rreadT_any (b.drop (U1 + U2)) (some ⟨bb, off + (U1 + U2), none⟩) _ (lc - (U1 + U2)) (by rw [List.length_drop]) (by rw [List.length_drop]; omega) (by rw [List.length_drop]; omega) W3 (cut_drop HR3.out hcap (by omega) (by omega))).mono ?_
    rintro e wk ⟨rfl, hbk⟩
    rw [HV.out]
    have hLk := HL3.out.next hbk
    have HLk := Lib.hid hLk
    have HRk := Lib.hid ((HR3.out.below hbk).more hbk.size)
    obtain ⟨z0, z1, y0, y1, zl, x0, x1, v0, v1, xl, hne⟩ := hLk.cells
    clear hbk hLk
    have HL5 := Lib.hid (HLk.out.set1 (.string ⟨v.toArray⟩))
    go_upto_region 19 with fail
    obtain ⟨W5, hW5⟩ : ∃ W5, wk.setCell ⟨F2, 1, none⟩ (.string ⟨v.toArray⟩) = W5 := ⟨_, rfl⟩
    rw [hW5]
    have HL5 := Lib.hid (show RL w W5 F6 F2 (.string ⟨nm.toArray⟩) (.string ⟨v.toArray⟩) by rw [← hW5]; exact HL5.out)
    clear hW5 z0 z1 y0 y1 zl x0 x1 v0 v1 xl hne
    obtain ⟨z0, z1, y0, y1, zl, x0, x1, v0, v1, xl, hne⟩ := HL5.out.cells
    have hput := HL5.out.put (.string ⟨nm.toArray⟩) (.string ⟨v.toArray⟩)
    have HPUT := Lib.hid hput
    clear hput
    go_wp2
    refine bodyPost_ret (results_cell_tmp2 rfl _ _ F6 _ _ _ rfl (HPUT.out.1) Tryd.underlying86 rfl fld_sizeR) rfl ?_
    exact ⟨rfl, HPUT.out.2⟩
end Go.Proofs.YtkbbkamnmdeagaaDoor
