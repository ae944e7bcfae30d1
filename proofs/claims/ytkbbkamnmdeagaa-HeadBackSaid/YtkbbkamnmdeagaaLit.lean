/-
  A field that is no field of the table, as the coder reads it, where nothing is wrong. Condition: the bound on the bytes.
-/
import Derived.Test.YtkbbkamnmdeagaaRdr
import Derived.Deep.CutRange
import Derived.Deep.LoopGhost
namespace Go.Proofs.Ytkbbkamnmdeagaa
open Go.RowKit
attribute [local go_sem ↓] Go.wp_at_zero Go.wp_at_succ

theorem litV_ok {ys : List Fld} {b : List UInt8} {t : Int} {f : Fld} {U : Nat} (h : litV ys b t = (f, U, 0)) : ∃ N U1, getV b t = (N, U1, 0) ∧ N ≤ 12 + ys.length ∧
    ((0 < N ∧ ∃ v U2, readT (b.drop U1) = (v, U2, 0) ∧ f = (((tAll ys).getD (N - 1) ([], [])).1, v) ∧ U = U1 + U2) ∨
     (N = 0 ∧ ∃ n U2 v U3, readT (b.drop U1) = (n, U2, 0) ∧ readT (b.drop (U1 + U2)) = (v, U3, 0) ∧ f = (n, v) ∧ U = U1 + U2 + U3)) := by
  obtain ⟨N, U1, E1, h1⟩ : ∃ N U1 E1, getV b t = (N, U1, E1) := ⟨_, _, _, rfl⟩
  obtain ⟨n, U2, E2, h2⟩ : ∃ n U2 E2, readT (b.drop U1) = (n, U2, E2) := ⟨_, _, _, rfl⟩
  obtain ⟨v, U3, E3, h3⟩ : ∃ v U3 E3, readT (b.drop (U1 + U2)) = (v, U3, E3) := ⟨_, _, _, rfl⟩
  simp only [litV, h1, h2, h3] at h
  by_cases e1 : E1 ≠ 0
  · rw [if_pos e1] at h
    simp at h
    exact absurd h.2.2 e1
  rw [if_neg e1] at h
  have e1' : E1 = 0 := Decidable.not_not.1 e1
  subst e1'
  by_cases e2 : 12 + ys.length < N
  · rw [if_pos e2] at h
    simp at h
  rw [if_neg e2] at h
  refine ⟨N, U1, h1, by omega, ?_⟩
  by_cases e3 : 0 < N
  · rw [if_pos e3] at h
    left
    by_cases e4 : E2 ≠ 0
    · rw [if_pos e4] at h
      simp at h
      exact absurd h.2.2 e4
    rw [if_neg e4] at h
    have e4' : E2 = 0 := Decidable.not_not.1 e4
    subst e4'
    simp at h
    exact ⟨e3, n, U2, h2, by rw [← h.1]; simp, h.2.symm⟩
  · rw [if_neg e3] at h
    right
    by_cases e4 : E2 ≠ 0
    · rw [if_pos e4] at h
      simp at h
      exact absurd h.2.2 e4
    rw [if_neg e4] at h
    have e4' : E2 = 0 := Decidable.not_not.1 e4
    subst e4'
    by_cases e5 : E3 ≠ 0
    · rw [if_pos e5] at h
      simp at h
      exact absurd h.2.2 e5
    rw [if_neg e5] at h
    have e5' : E3 = 0 := Decidable.not_not.1 e5
    subst e5'
    simp at h
    exact ⟨by omega, n, U2, v, U3, h2, h3, h.1.symm, h.2.symm⟩

/-- Between the pieces: the reader; the field's block; all else as it lay. -/
structure LSt (w wr : World) (R B F : Nat) (b : List UInt8) (x y : Value) : Prop where
  rd : Rd wr R B b
  fl : Blk wr F 40 #[x, y]
  kp : Keep (fun k => k = R) w wr
  bw : B < w.heap.size
  br : R ≠ B
  rw_ : R < w.heap.size
  fw : w.heap.size ≤ F
section
variable {w wr w1 : World} {R B F : Nat} {b b' : List UInt8} {x y : Value}
theorem LSt.next (h : LSt w wr R B F b x y) (hr : Rd w1 R B b') (hk : Keep (fun k => k = R) wr w1) : LSt w w1 R B F b' x y :=
  ⟨hr, h.fl.keep hk (by have := h.rw_; have := h.fw; omega), h.kp.trans hk fun i hi => .inl hi, h.bw, h.br, h.rw_, h.fw⟩
theorem LSt.below (h : LSt w wr R B F b x y) (hb : Below wr.heap.size wr w1) : LSt w w1 R B F b x y := by
  have hk : Keep (fun _ => False) wr w1 := Keep.of_below hb
  exact ⟨h.rd.keep hk (fun h => h) (fun h => h), h.fl.keep hk (fun h => h), h.kp.trans hk fun i hi => hi.elim, h.bw, h.br, h.rw_, h.fw⟩
theorem LSt.set0 (h : LSt w wr R B F b x y) (v : Value) : LSt w (wr.setCell ⟨F, 0, none⟩ v) R B F b v y := by
  have hk : Keep (fun k => k = F) wr (wr.setCell ⟨F, 0, none⟩ v) := (Keep.refl (fun k => k = F) wr).setCell (p := ⟨F, 0, none⟩) (.inl rfl) v
  have e1 := h.rw_
  have e2 := h.fw
  have e3 := h.bw
  refine ⟨h.rd.keep hk (by omega) (by omega), ?_, h.kp.trans hk fun i hi => .inr (by omega), h.bw, h.br, h.rw_, h.fw⟩
  have := h.fl.set_ 0 v
  simpa using this
theorem LSt.set1 (h : LSt w wr R B F b x y) (v : Value) : LSt w (wr.setCell ⟨F, 1, none⟩ v) R B F b x v := by
  have hk : Keep (fun k => k = F) wr (wr.setCell ⟨F, 1, none⟩ v) := (Keep.refl (fun k => k = F) wr).setCell (p := ⟨F, 1, none⟩) (.inl rfl) v
  have e1 := h.rw_
  have e2 := h.fw
  have e3 := h.bw
  refine ⟨h.rd.keep hk (by omega) (by omega), ?_, h.kp.trans hk fun i hi => .inr (by omega), h.bw, h.br, h.rw_, h.fw⟩
  have := h.fl.set_ 1 v
  simpa using this
theorem rd_noErr {wr : World} {R B : Nat} {b : List UInt8} (h : Rd wr R B b) (hRB : R ≠ B) : Rd (wr.setCell ⟨R, 1, none⟩ .nilIface) R B b ∧ Keep (fun k => k = R) wr (wr.setCell ⟨R, 1, none⟩ .nilIface) := by
  have hk : Keep (fun k => k = R) wr (wr.setCell ⟨R, 1, none⟩ .nilIface) := (Keep.refl (fun k => k = R) wr).setCell (p := ⟨R, 1, none⟩) (.inl rfl) _
  refine ⟨?_, hk⟩
  obtain ⟨a, c, h1, h2, h3, h4⟩ := h
  refine ⟨a, c, ?_, h2, (reads_keep h3 hk (Nat.le_refl _) fun ad e => by rw [h4 ad e]; exact fun e => hRB e.symm).more hk.size, h4⟩
  have := h1.set_ 1 .nilIface
  simpa using this
theorem LSt.noErr (h : LSt w wr R B F b x y) : LSt w (wr.setCell ⟨R, 1, none⟩ .nilIface) R B F b x y := by
  obtain ⟨h1, h2⟩ := rd_noErr h.rd h.br
  exact h.next h1 h2
theorem LSt.cells (h : LSt w wr R B F b x y) : wr.cell? ⟨F, 0, none⟩ = some x ∧ wr.cell? ⟨F, 1, none⟩ = some y ∧ wr.frozen? ⟨F, 0, none⟩ = false ∧ wr.frozen? ⟨F, 1, none⟩ = false ∧ F < wr.heap.size ∧
    (∃ v, wr.cell? ⟨R, 0, none⟩ = some v) ∧ wr.cell? ⟨R, 1, none⟩ = some .nilIface ∧ wr.frozen? ⟨R, 1, none⟩ = false ∧ R < wr.heap.size ∧ R ≠ F := by
  obtain ⟨a, c, h1, h2, h3, -⟩ := h.rd
  have e1 := h.rw_
  have e2 := h.fw
  exact ⟨h.fl.cell 0, h.fl.cell 1, h.fl.frozen 0, h.fl.frozen 1, h.fl.lt, ⟨_, h1.cell 0⟩, h1.cell 1, h1.frozen 1, h1.lt, by omega⟩
end

set_option maxRecDepth 100000 in
set_option maxHeartbeats 4000000 in
theorem lit_ok {w : World} {C h : Nat} {A : Option Addr} {c : Nat} {ys : List Fld} {my most : Nat} {bad : Bool} (H : CIn w C h A c ys my most bad) {R B : Nat} {b : List UInt8} (hr : Rd w R B b) (hB : B < w.heap.size) (hBR : R ≠ B) (hRC : ¬ iOwn C h A R) (hm : b.length ≤ 140737488355328) (t : Int) (f : Fld) (U : Nat) (hV : litV ys b t = (f, U, 0)) :
    Calls Try.prog 45 #[.pointer (some ⟨C, 0, none⟩), .pointer (some ⟨R, 0, none⟩), .int .i64 t] w fun e w' => e = .returned (.agg #[.string ⟨f.1.toArray⟩, .string ⟨f.2.toArray⟩]) ∧ Rd w' R B (b.drop U) ∧ Keep (fun k => k = R) w w' := by
  obtain ⟨N, U1, hg, hN, hcase⟩ := litV_ok hV
  have hRw : R < w.heap.size := by
    obtain ⟨a, cc, h1, _⟩ := hr
    exact h1.lt
  have hu1 := (getV_used (l := b) (t := t) (by rw [hg])).2.1
  rw [hg] at hu1
  simp only at hu1
  have h0 : LSt w (w.alloc (.cells #[.string ⟨#[]⟩, .string ⟨#[]⟩] 40)) R B w.heap.size b (.string ⟨#[]⟩) (.string ⟨#[]⟩) := by
    have hba : Below w.heap.size w (w.alloc (.cells #[.string ⟨#[]⟩, .string ⟨#[]⟩] 40)) := (Below.refl _ _).alloc (Nat.le_refl _) _
    have hk : Keep (fun _ => False) w (w.alloc (.cells #[.string ⟨#[]⟩, .string ⟨#[]⟩] 40)) := Keep.of_below hba
    exact ⟨hr.keep hk (fun h => h) (fun h => h), Blk.new w _ _, Keep.of_below hba, hB, hBR, hRw, Nat.le_refl _⟩
  obtain ⟨F, hF⟩ : ∃ F, w.heap.size = F := ⟨_, rfl⟩
  obtain ⟨W0, hW0⟩ : ∃ W0, w.alloc (.cells #[.string ⟨#[]⟩, .string ⟨#[]⟩] 40) = W0 := ⟨_, rfl⟩
  rw [hF, hW0] at h0
  have H0 := Lib.hid h0
  have HH := Lib.hid H
  have HG := Lib.hid hg
  have HF := Lib.hid hF
  have HW0 := Lib.hid hW0
  have HRC := Lib.hid hRC
  clear h0 H hg hF hW0 hr hRw hV
  rcases hcase with ⟨hN0, v, U2, hv, rfl, rfl⟩ | ⟨hN0, n, U2, v, U3, hn, hv, rfl, rfl⟩
  · have HV := Lib.hid hv
    have hu2 := (readT_used (l := b.drop U1) (by rw [hv])).2.1
    rw [hv, List.length_drop] at hu2
    simp only at hu2
    have hNi : (0 : Int) < ((N : Nat) : Int) := by omega
    have hNd := decide_eq_true hNi
    obtain ⟨f0, hf0⟩ : ∃ f0, (tAll ys).getD (N - 1) ([], []) = f0 := ⟨_, rfl⟩
    rw [hf0]
    have HF0 := Lib.hid hf0
    clear hv hf0
    go_enter Try.func45, Try.ntmps45
    go_wp2_with fail
    rw [HW0.out, HF.out]
    refine (rnum_ok H0.out.rd hBR hm t N U1 HG.out).mono ?_
    rintro e w1 ⟨rfl, hr1, hk1⟩
    have h1 := H0.out.next hr1 hk1
    obtain ⟨c0, c1, -, -, cF, ⟨r0v, r0⟩, r1, f1, rl, rne⟩ := h1.cells
    have hC1 := (HH.out.keep h1.kp fun k hk he => HRC.out (he ▸ hk))
    obtain ⟨⟨cg, cSv, hCb⟩, hCt⟩ := hC1
    have d1 := hCb.cell 1
    have H1 := Lib.hid h1
    have HCT := Lib.hid hCt
    clear hr1 hk1 h1 hCb hCt
    go_upto_region 3 with fail
    clear hNi hNd r1
    go_wp2_with fail
    obtain ⟨k, rfl⟩ : ∃ k, N = k + 1 := ⟨N - 1, by omega⟩
    have hf0 : (tAll ys).getD k ([], []) = f0 := HF0.out
    have hki : (((k + 1 : Nat) : Int)) = (k : Int) + 1 := by omega
    rw [hki]
    refine (get_yes HCT.out k (by omega) f0 hf0).mono ?_
    rintro e w2 ⟨rfl, hb2⟩
    have h2 := H1.out.below hb2
    obtain ⟨c0, c1, g0, g1, cF, ⟨r0v, r0⟩, r1, f1, rl, rne⟩ := h2.cells
    have H3 := Lib.hid (((h2.set0 (.string ⟨f0.1.toArray⟩)).set1 (.string ⟨f0.2.toArray⟩)).noErr)
    clear hb2 h2 hf0 hki
    go_upto_region 5 with fail
    obtain ⟨W3, hW3⟩ : ∃ W3, ((w2.setCell ⟨F, 0, none⟩ (.string ⟨f0.1.toArray⟩)).setCell ⟨F, 1, none⟩ (.string ⟨f0.2.toArray⟩)).setCell ⟨R, 1, none⟩ .nilIface = W3 := ⟨_, rfl⟩
    rw [hW3]
    have H3 := Lib.hid (show LSt w W3 R B F (b.drop U1) (.string ⟨f0.1.toArray⟩) (.string ⟨f0.2.toArray⟩) by rw [← hW3]; exact H3.out)
    clear hW3 c0 c1 g0 g1 cF r0 r1 f1 rl rne
    go_wp2_with fail
    refine (rtext_ok H3.out.rd hBR (by rw [List.length_drop]; omega) v U2 HV.out).mono ?_
    rintro e w4 ⟨rfl, hr4, hk4⟩
    have h4 := H3.out.next hr4 hk4
    have h5 := h4.set1 (.string ⟨v.toArray⟩)
    obtain ⟨c0, c1, g0, g1, cF, -⟩ := h4.cells
    have h6 := (h5.set0 (.string ⟨f0.1.toArray⟩)).set1 (.string ⟨v.toArray⟩)
    have H6 := Lib.hid h6
    have x0 := h6.cells.1
    have x1 := h6.cells.2.1
    clear hr4 hk4 h4 h5 h6
    go_wp2
    refine bodyPost_ret (v := .agg #[.string ⟨f0.1.toArray⟩, .string ⟨v.toArray⟩]) (by simp [results, Try.results45, go_sem, x0, x1]) rfl ⟨rfl, ?_, H6.out.kp⟩
    have h := H6.out.rd
    rw [List.drop_drop] at h
    exact h
  · have HV := Lib.hid hv
    have HN := Lib.hid hn
    have hu2 := (readT_used (l := b.drop U1) (by rw [hn])).2.1
    rw [hn, List.length_drop] at hu2
    simp only at hu2
    subst hN0
    clear hv hn
    go_enter Try.func45, Try.ntmps45
    go_wp2_with fail
    rw [HW0.out, HF.out]
    refine (rnum_ok H0.out.rd hBR hm t 0 U1 HG.out).mono ?_
    rintro e w1 ⟨rfl, hr1, hk1⟩
    have h1 := H0.out.next hr1 hk1
    obtain ⟨c0, c1, -, -, cF, ⟨r0v, r0⟩, r1, f1, rl, rne⟩ := h1.cells
    have H1 := Lib.hid h1
    clear hr1 hk1 h1
    go_wp2_with fail
    refine (rtext_ok H1.out.rd hBR (by rw [List.length_drop]; omega) n U2 HN.out).mono ?_
    rintro e w2 ⟨rfl, hr2, hk2⟩
    have h2 := H1.out.next hr2 hk2
    rw [List.drop_drop] at h2
    have H3 := Lib.hid (h2.set0 (.string ⟨n.toArray⟩))
    clear c0 c1 cF r0 r1 f1 rl rne
    obtain ⟨c0, c1, g0, g1, cF, -⟩ := h2.cells
    clear hr2 hk2 h2
    go_upto_region 5 with fail
    obtain ⟨W3, hW3⟩ : ∃ W3, w2.setCell ⟨F, 0, none⟩ (.string ⟨n.toArray⟩) = W3 := ⟨_, rfl⟩
    rw [hW3]
    have H3 := Lib.hid (show LSt w W3 R B F (b.drop (U1 + U2)) (.string ⟨n.toArray⟩) (.string ⟨#[]⟩) by rw [← hW3]; exact H3.out)
    clear hW3 c0 c1 g0 g1 cF
    go_wp2_with fail
    refine (rtext_ok H3.out.rd hBR (by rw [List.length_drop]; omega) v U3 HV.out).mono ?_
    rintro e w4 ⟨rfl, hr4, hk4⟩
    have h4 := H3.out.next hr4 hk4
    have h5 := h4.set1 (.string ⟨v.toArray⟩)
    obtain ⟨c0, c1, g0, g1, cF, -⟩ := h4.cells
    have h6 := (h5.set0 (.string ⟨n.toArray⟩)).set1 (.string ⟨v.toArray⟩)
    have H6 := Lib.hid h6
    have x0 := h6.cells.1
    have x1 := h6.cells.2.1
    clear hr4 hk4 h4 h5 h6
    go_wp2
    refine bodyPost_ret (v := .agg #[.string ⟨n.toArray⟩, .string ⟨v.toArray⟩]) (by simp [results, Try.results45, go_sem, x0, x1]) rfl ⟨rfl, ?_, H6.out.kp⟩
    have h := H6.out.rd
    rw [List.drop_drop] at h
    exact h
end Go.Proofs.Ytkbbkamnmdeagaa
