/-
  A coder's reader of pieces where something is wrong: its number, its text. Condition: the bound on the bytes.
  A field that is no field of the table, as the coder reads it, where something is wrong. Condition: the bound on the bytes.
-/
import Derived.Test.YtkbbkamnmdeagaaDoorMHeadPlays20
namespace Go.Proofs.YtkbbkamnmdeagaaDoor
open Go.RowKit
attribute [local go_sem ↓] Go.wp_at_zero Go.wp_at_succ

theorem getFrom_fault : ∀ (l : List UInt8) (i n : Nat), (getFrom i n l).2.2 ≠ 0 → (getFrom i n l).1 = 0 ∧ (getFrom i n l).2.1 = 0
  | [], i, n, _ => by simp [getFrom]
  | c :: r, i, n, h => by
    by_cases h1 : 2147483647 < n + c.toNat % 128 * 128 ^ i ∨ (i = 4 ∧ 128 ≤ c.toNat)
    · rw [getFrom_over h1]
      exact ⟨rfl, rfl⟩
    · by_cases h2 : 0 < i ∧ c.toNat = 0
      · rw [getFrom_zero h1 h2]
        exact ⟨rfl, rfl⟩
      · by_cases h3 : c.toNat < 128
        · rw [getFrom_done h1 h2 h3] at h
          exact absurd rfl h
        · rw [getFrom_next h1 h2 h3] at h ⊢
          exact getFrom_fault r _ _ h
theorem getV_fault {l : List UInt8} {t : Int} {N U E : Nat} (h : getV l t = (N, U, E)) (hE : E ≠ 0) : N = 0 ∧ U = 0 := by
  unfold getV at h
  by_cases h1 : t < 1 ∨ 8 < t
  · rw [if_pos h1] at h
    cases h
    exact ⟨rfl, rfl⟩
  · rw [if_neg h1] at h
    match l, h with
    | [], h => cases h; exact ⟨rfl, rfl⟩
    | c :: r, h =>
      simp only at h
      by_cases h2 : c.toNat % 2 ^ t.toNat < 2 ^ t.toNat - 1
      · rw [if_pos h2] at h
        cases h
        exact absurd rfl hE
      · rw [if_neg h2] at h
        have := getFrom_fault r 0 (c.toNat % 2 ^ t.toNat) (by rw [h]; exact hE)
        rw [h] at this
        exact this
theorem readT_fault {l s : List UInt8} {U E : Nat} (h : readT l = (s, U, E)) (hE : E ≠ 0) : s = [] ∧ U = 0 := by
  unfold readT at h
  by_cases h1 : (getV l 7).2.2 ≠ 0
  · rw [if_pos h1] at h
    cases h
    exact ⟨rfl, rfl⟩
  rw [if_neg h1] at h
  by_cases h2 : 400 < (getV l 7).1
  · rw [if_pos h2] at h
    cases h
    exact ⟨rfl, rfl⟩
  rw [if_neg h2] at h
  by_cases h3 : l.length < (getV l 7).2.1 + (getV l 7).1
  · rw [if_pos h3] at h
    cases h
    exact ⟨rfl, rfl⟩
  rw [if_neg h3] at h
  split at h
  · cases h
    exact ⟨rfl, rfl⟩
  · rename_i s' hs
    by_cases h4 : 400 < s'.length
    · rw [if_pos h4] at h
      cases h
      exact ⟨rfl, rfl⟩
    rw [if_neg h4] at h
    by_cases h5 : txtL s' = l.take ((getV l 7).2.1 + (getV l 7).1)
    · rw [if_pos h5] at h
      cases h
      exact absurd rfl hE
    · rw [if_neg h5] at h
      cases h
      exact ⟨rfl, rfl⟩
theorem litV_bad {ys : List Fld} {b : List UInt8} {t : Int} {f : Fld} {U E : Nat} (h : litV ys b t = (f, U, E)) (hE : E ≠ 0) :
    getV b t = (0, 0, E) ∨ ∃ N U1, getV b t = (N, U1, 0) ∧ ((12 + ys.length < N ∧ E = 5) ∨ (0 < N ∧ N ≤ 12 + ys.length ∧ readT (b.drop U1) = ([], 0, E)) ∨ (N = 0 ∧ readT (b.drop U1) = ([], 0, E)) ∨
      (N = 0 ∧ ∃ n U2, readT (b.drop U1) = (n, U2, 0) ∧ readT (b.drop (U1 + U2)) = ([], 0, E))) := by
  obtain ⟨N, U1, E1, h1⟩ : ∃ N U1 E1, getV b t = (N, U1, E1) := ⟨_, _, _, rfl⟩
  obtain ⟨n, U2, E2, h2⟩ : ∃ n U2 E2, readT (b.drop U1) = (n, U2, E2) := ⟨_, _, _, rfl⟩
  obtain ⟨v, U3, E3, h3⟩ : ∃ v U3 E3, readT (b.drop (U1 + U2)) = (v, U3, E3) := ⟨_, _, _, rfl⟩
  simp only [litV, h1, h2, h3] at h
  by_cases e1 : E1 ≠ 0
  · rw [if_pos e1] at h
    obtain ⟨rfl, rfl⟩ := getV_fault h1 e1
    cases h
    exact .inl h1
  rw [if_neg e1] at h
  have e1' : E1 = 0 := Decidable.not_not.1 e1
  subst e1'
  right
  refine ⟨N, U1, h1, ?_⟩
  by_cases e2 : 12 + ys.length < N
  · rw [if_pos e2] at h
    cases h
    exact .inl ⟨e2, rfl⟩
  rw [if_neg e2] at h
  right
  by_cases e3 : 0 < N
  · rw [if_pos e3] at h
    left
    by_cases e4 : E2 ≠ 0
    · rw [if_pos e4] at h
      obtain ⟨rfl, rfl⟩ := readT_fault h2 e4
      cases h
      exact ⟨e3, by omega, h2⟩
    · rw [if_neg e4] at h
      cases h
      exact absurd rfl hE
  · rw [if_neg e3] at h
    right
    by_cases e4 : E2 ≠ 0
    · rw [if_pos e4] at h
      obtain ⟨rfl, rfl⟩ := readT_fault h2 e4
      cases h
      exact .inl ⟨by omega, h2⟩
    rw [if_neg e4] at h
    have e4' : E2 = 0 := Decidable.not_not.1 e4
    subst e4'
    by_cases e5 : E3 ≠ 0
    · rw [if_pos e5] at h
      obtain ⟨rfl, rfl⟩ := readT_fault h3 e5
      cases h
      exact .inr ⟨by omega, n, U2, h2, h3⟩
    · rw [if_neg e5] at h
      cases h
      exact absurd rfl hE

/-- A reader with a fault. -/
def RE (w : World) (R E : Nat) : Prop := ∃ a n c, Blk w R 154 #[.slice a n c, .iface 113 (.int .i64 ((E : Nat) : Int))]
theorem RE.keep {S : Nat → Prop} {w w' : World} {R E : Nat} (h : RE w R E) (hk : Keep S w w') (hR : ¬ S R) : RE w' R E := by
  obtain ⟨a, n, c, h1⟩ := h
  exact ⟨a, n, c, h1.keep hk hR⟩
theorem re_set {w : World} {R E n c : Nat} {a : Option Addr} {u : Value} (hb : Blk w R 154 #[.slice a n c, u]) (a' : Option Addr) (n' c' : Nat) : RE ((w.setCell ⟨R, 0, none⟩ (.slice a' n' c')).setCell ⟨R, 1, none⟩ (.iface 113 (.int .i64 ((E : Nat) : Int)))) R E := by
  have h := (hb.set_ 0 (.slice a' n' c')).set_ 1 (.iface 113 (.int .i64 ((E : Nat) : Int)))
  exact ⟨a', n', c', by simpa using h⟩
set_option maxRecDepth 100000 in
set_option maxHeartbeats 4000000 in
theorem rnum_fault {w : World} {R B : Nat} {b : List UInt8} (h : Rd w R B b) (hm : b.length ≤ 140737488355328) (s : Int) (E : Nat) (hV : getV b s = (0, 0, E)) (hE : E ≠ 0) :
    Calls Tryd.prog 103 #[.pointer (some ⟨R, 0, none⟩), .int .i64 s] w fun e w' => e = .returned (.int .i64 0) ∧ RE w' R E ∧ Keep (fun k => k = R) w w' := by
  obtain ⟨a, c, hb, hc, hr, ha⟩ := h
  have c0 := hb.cell 0
  have c1 := hb.cell 1
  have f0 := hb.frozen 0
  have f1 := hb.frozen 1
  have hlt := hb.lt
  have HB := Lib.hid hb
  have HR := Lib.hid hr
  have HV := Lib.hid hV
  have HE := Lib.hid hE
  have HK := Lib.hid (fun (u v : Value) => ((Keep.refl (fun k => k = R) w).setCell (p := ⟨R, 0, none⟩) (.inl rfl) u).setCell (p := ⟨R, 1, none⟩) (.inl rfl) v)
  clear hb hr hV ha hE
  cases a with
  | none =>
    go_enter Tryd.func103, Tryd.ntmps103
    go_wp2_with fail
    refine (wget_any b s _ _ c rfl hc hm w.heap.size w HR.out).mono ?_
    rintro e w' ⟨rfl, rfl⟩
    rw [HV.out, errV_pos HE.out]
    go_wp2
    go_ret
    exact ⟨rfl, re_set HB.out _ _ _, HK.out _ _⟩
  | some ad =>
    go_enter Tryd.func103, Tryd.ntmps103
    go_wp2_with fail
    refine (wget_any b s _ _ c rfl hc hm w.heap.size w HR.out).mono ?_
    rintro e w' ⟨rfl, rfl⟩
    rw [HV.out, errV_pos HE.out]
    go_wp2
    go_ret
    exact ⟨rfl, re_set HB.out _ _ _, HK.out _ _⟩
set_option maxRecDepth 100000 in
set_option maxHeartbeats 4000000 in
theorem rtext_fault {w : World} {R B : Nat} {b : List UInt8} (h : Rd w R B b) (hm : b.length ≤ 140737488355328) (E : Nat) (hV : readT b = ([], 0, E)) (hE : E ≠ 0) :
    Calls Tryd.prog 111 #[.pointer (some ⟨R, 0, none⟩)] w fun e w' => e = .returned (.string ⟨#[]⟩) ∧ RE w' R E ∧ Keep (fun k => k = R) w w' := by
  obtain ⟨a, c, hb, hc, hr, ha⟩ := h
  have c0 := hb.cell 0
  have c1 := hb.cell 1
  have f0 := hb.frozen 0
  have f1 := hb.frozen 1
  have hlt := hb.lt
  have HB := Lib.hid hb
  have HR := Lib.hid hr
  have HV := Lib.hid hV
  have HE := Lib.hid hE
  clear hb hr hV ha hE
  cases a with
  | none =>
    go_enter Tryd.func111, Tryd.ntmps111
    go_wp2_with fail
    refine (hread_any b _ _ c rfl hc hm w HR.out).mono ?_
    rintro e w1 ⟨rfl, hb1⟩
    rw [HV.out, errV_pos HE.out]
    have hk := HB.out.below hb1 HB.out.lt
    have c0 := hk.cell 0
    have c1 := hk.cell 1
    have f0 := hk.frozen 0
    have f1 := hk.frozen 1
    have hlt := hk.lt
    have HK1 := Lib.hid hk
    have HK := Lib.hid (fun (u v : Value) => ((Keep.of_below (S := fun k => k = R) hb1).setCell (p := ⟨R, 0, none⟩) (.inl rfl) u).setCell (p := ⟨R, 1, none⟩) (.inl rfl) v)
    clear hk hb1
    go_wp2
    go_ret
    exact ⟨rfl, re_set HK1.out _ _ _, HK.out _ _⟩
  | some ad =>
    go_enter Tryd.func111, Tryd.ntmps111
    go_wp2_with fail
    refine (hread_any b _ _ c rfl hc hm w HR.out).mono ?_
    rintro e w1 ⟨rfl, hb1⟩
    rw [HV.out, errV_pos HE.out]
    have hk := HB.out.below hb1 HB.out.lt
    have c0 := hk.cell 0
    have c1 := hk.cell 1
    have f0 := hk.frozen 0
    have f1 := hk.frozen 1
    have hlt := hk.lt
    have HK1 := Lib.hid hk
    have HK := Lib.hid (fun (u v : Value) => ((Keep.of_below (S := fun k => k = R) hb1).setCell (p := ⟨R, 0, none⟩) (.inl rfl) u).setCell (p := ⟨R, 1, none⟩) (.inl rfl) v)
    clear hk hb1
    go_wp2
    go_ret
    exact ⟨rfl, re_set HK1.out _ _ _, HK.out _ _⟩
set_option maxRecDepth 100000 in
set_option maxHeartbeats 1000000 in
theorem rtext_bad {w : World} {R E : Nat} (h : RE w R E) :
    Calls Tryd.prog 111 #[.pointer (some ⟨R, 0, none⟩)] w fun e w' => e = .returned (.string ⟨#[]⟩) ∧ w = w' := by
  obtain ⟨a, n, c, hb⟩ := h
  have c1 := hb.cell 1
  clear hb
  go_enter Tryd.func111, Tryd.ntmps111
  go_wp2
  go_ret
  exact ⟨rfl, rfl⟩
end Go.Proofs.YtkbbkamnmdeagaaDoor
namespace Go.Proofs.YtkbbkamnmdeagaaDoor
open Go.RowKit
attribute [local go_sem ↓] Go.wp_at_zero Go.wp_at_succ

/-- Behind a fault: the reader; the field's block; all else as it lay. -/
structure LE (w wr : World) (R F E : Nat) (x y : Value) : Prop where
  re : RE wr R E
  fl : Blk wr F 86 #[x, y]
  kp : Keep (fun k => k = R) w wr
  rw_ : R < w.heap.size
  fw : w.heap.size ≤ F
section
variable {w wr w1 : World} {R B F E : Nat} {b : List UInt8} {x y : Value}
theorem LSt.fault (h : LSt w wr R B F b x y) (hr : RE w1 R E) (hk : Keep (fun k => k = R) wr w1) : LE w w1 R F E x y :=
  ⟨hr, h.fl.keep hk (by have := h.rw_; have := h.fw; omega), h.kp.trans hk fun i hi => .inl hi, h.rw_, h.fw⟩
theorem LE.set0 (h : LE w wr R F E x y) (v : Value) : LE w (wr.setCell ⟨F, 0, none⟩ v) R F E v y := by
  have hk : Keep (fun k => k = F) wr (wr.setCell ⟨F, 0, none⟩ v) := (Keep.refl (fun k => k = F) wr).setCell (p := ⟨F, 0, none⟩) (.inl rfl) v
  have e1 := h.rw_
  have e2 := h.fw
  refine ⟨h.re.keep hk (by omega), ?_, h.kp.trans hk fun i hi => .inr (by omega), h.rw_, h.fw⟩
  have := h.fl.set_ 0 v
  simpa using this
theorem LE.set1 (h : LE w wr R F E x y) (v : Value) : LE w (wr.setCell ⟨F, 1, none⟩ v) R F E x v := by
  have hk : Keep (fun k => k = F) wr (wr.setCell ⟨F, 1, none⟩ v) := (Keep.refl (fun k => k = F) wr).setCell (p := ⟨F, 1, none⟩) (.inl rfl) v
  have e1 := h.rw_
  have e2 := h.fw
  refine ⟨h.re.keep hk (by omega), ?_, h.kp.trans hk fun i hi => .inr (by omega), h.rw_, h.fw⟩
  have := h.fl.set_ 1 v
  simpa using this
theorem LE.cells (h : LE w wr R F E x y) : wr.cell? ⟨F, 0, none⟩ = some x ∧ wr.cell? ⟨F, 1, none⟩ = some y ∧ wr.frozen? ⟨F, 0, none⟩ = false ∧ wr.frozen? ⟨F, 1, none⟩ = false ∧ F < wr.heap.size ∧
    wr.cell? ⟨R, 1, none⟩ = some (.iface 113 (.int .i64 ((E : Nat) : Int))) ∧ wr.frozen? ⟨R, 1, none⟩ = false ∧ R < wr.heap.size ∧ R ≠ F := by
  obtain ⟨a, n, c, h1⟩ := h.re
  have e1 := h.rw_
  have e2 := h.fw
  exact ⟨h.fl.cell 0, h.fl.cell 1, h.fl.frozen 0, h.fl.frozen 1, h.fl.lt, h1.cell 1, h1.frozen 1, h1.lt, by omega⟩
/-- A fault is put into the reader. -/
theorem LSt.setErr (h : LSt w wr R B F b x y) (E : Nat) : LE w (wr.setCell ⟨R, 1, none⟩ (.iface 113 (.int .i64 ((E : Nat) : Int)))) R F E x y := by
  obtain ⟨a, c, h1, -⟩ := h.rd
  have hk : Keep (fun k => k = R) wr (wr.setCell ⟨R, 1, none⟩ (.iface 113 (.int .i64 ((E : Nat) : Int)))) := (Keep.refl (fun k => k = R) wr).setCell (p := ⟨R, 1, none⟩) (.inl rfl) _
  refine h.fault ⟨a, b.length, c, ?_⟩ hk
  have := h1.set_ 1 (.iface 113 (.int .i64 ((E : Nat) : Int)))
  simpa using this
end

set_option maxRecDepth 100000 in
set_option maxHeartbeats 4000000 in
theorem lit_fault {w : World} {C h : Nat} {A : Option Addr} {c : Nat} {ys : List Fld} {my most : Nat} {bad : Bool} (H : CIn w C h A c ys my most bad) {R B : Nat} {b : List UInt8} (hr : Rd w R B b) (hB : B < w.heap.size) (hBR : R ≠ B) (hRC : ¬ iOwn C h A R) (hm : b.length ≤ 140737488355328) (t : Int) (f : Fld) (U E : Nat) (hV : litV ys b t = (f, U, E)) (hE : E ≠ 0) :
    Calls Tryd.prog 104 #[.pointer (some ⟨C, 0, none⟩), .pointer (some ⟨R, 0, none⟩), .int .i64 t] w fun e w' => (∃ s1 s2 : ByteArray, e = .returned (.agg #[.string s1, .string s2])) ∧ RE w' R E ∧ Keep (fun k => k = R) w w' := by
  have hcase := litV_bad hV hE
  have hRw : R < w.heap.size := by
    obtain ⟨a, cc, h1, _⟩ := hr
    exact h1.lt
  have h0 : LSt w (w.alloc (.cells #[.string ⟨#[]⟩, .string ⟨#[]⟩] 86)) R B w.heap.size b (.string ⟨#[]⟩) (.string ⟨#[]⟩) := by
    have hba : Below w.heap.size w (w.alloc (.cells #[.string ⟨#[]⟩, .string ⟨#[]⟩] 86)) := (Below.refl _ _).alloc (Nat.le_refl _) _
    have hk : Keep (fun _ => False) w (w.alloc (.cells #[.string ⟨#[]⟩, .string ⟨#[]⟩] 86)) := Keep.of_below hba
    exact ⟨hr.keep hk (fun h => h) (fun h => h), Blk.new w _ _, Keep.of_below hba, hB, hBR, hRw, Nat.le_refl _⟩
  obtain ⟨F, hF⟩ : ∃ F, w.heap.size = F := ⟨_, rfl⟩
  obtain ⟨W0, hW0⟩ : ∃ W0, w.alloc (.cells #[.string ⟨#[]⟩, .string ⟨#[]⟩] 86) = W0 := ⟨_, rfl⟩
  rw [hF, hW0] at h0
  have H0 := Lib.hid h0
  have HH := Lib.hid H
  have HF := Lib.hid hF
  have HW0 := Lib.hid hW0
  have HRC := Lib.hid hRC
  have HE := Lib.hid hE
  clear h0 H hF hW0 hr hRw hV hE
  rcases hcase with hg | ⟨N, U1, hg, hcase⟩
  · have HG := Lib.hid hg
    clear hg
    go_enter Tryd.func104, Tryd.ntmps104
    go_wp2_with fail
    rw [HW0.out, HF.out]
    refine (rnum_fault H0.out.rd hm t E HG.out HE.out).mono ?_
    rintro e w1 ⟨rfl, hr1, hk1⟩
    have h1 := H0.out.fault hr1 hk1
    obtain ⟨c0, c1, g0, g1, cF, r1, f1, rl, rne⟩ := h1.cells
    have H1 := Lib.hid h1
    clear hr1 hk1 h1
    go_wp2_with fail
    refine (rtext_bad H1.out.re).mono ?_
    rintro e w' ⟨rfl, rfl⟩
    have H3 := Lib.hid (H1.out.set0 (.string ⟨#[]⟩))
    go_upto_region 5 with fail
    obtain ⟨W3, hW3⟩ : ∃ W3, w1.setCell ⟨F, 0, none⟩ (.string ⟨#[]⟩) = W3 := ⟨_, rfl⟩
    rw [hW3]
    have H3 := Lib.hid (show LE w W3 R F E (.string ⟨#[]⟩) (.string ⟨#[]⟩) by rw [← hW3]; exact H3.out)
    clear hW3 c0 c1 g0 g1 cF r1 f1 rl rne
    obtain ⟨c0, c1, g0, g1, cF, -⟩ := H3.out.cells
    go_wp2_with fail
    refine (rtext_bad H3.out.re).mono ?_
    rintro e w' ⟨rfl, rfl⟩
    have h6 := (((H3.out.set1 (.string ⟨#[]⟩)).set0 (.string ⟨#[]⟩)).set1 (.string ⟨#[]⟩))
    have H6 := Lib.hid h6
    have x0 := h6.cells.1
    have x1 := h6.cells.2.1
    clear h6
    go_wp2
    refine bodyPost_ret (v := .agg #[.string ⟨#[]⟩, .string ⟨#[]⟩]) (by simp [results, Tryd.results104, go_sem, x0, x1]) rfl ⟨⟨_, _, rfl⟩, H6.out.re, H6.out.kp⟩
  · have hu1 := (getV_used (l := b) (t := t) (by rw [hg])).2.1
    rw [hg] at hu1
    simp only at hu1
    have HG := Lib.hid hg
    clear hg
    rcases hcase with ⟨hN, rfl⟩ | ⟨hN0, hN, hv⟩ | ⟨rfl, hv⟩ | ⟨rfl, n, U2, hn, hv⟩
    · have hNi : (0 : Int) < ((N : Nat) : Int) := by omega
      have hNd := decide_eq_true hNi
      go_enter Tryd.func104, Tryd.ntmps104
      go_wp2_with fail
      rw [HW0.out, HF.out]
      refine (rnum_ok H0.out.rd hBR hm t N U1 HG.out).mono ?_
      rintro e w1 ⟨rfl, hr1, hk1⟩
      have h1 := H0.out.next hr1 hk1
      obtain ⟨c0, c1, -, -, cF, ⟨r0v, r0⟩, r1, f1, rl, rne⟩ := h1.cells
      have hC1 := (HH.out.keep h1.kp fun k hk he => HRC.out (he ▸ hk))
      obtain ⟨⟨cg, cSv, hCb⟩, hCt⟩ := hC1
      have d1 := hCb.cell 1
      have H1 := Lib.hid h1
      have HCT := Lib.hid hCt
      clear hr1 hk1 h1 hCb hCt
      go_upto_region 3 with fail
      clear hNi hNd r1
      go_wp2_with fail
      refine (get_no HCT.out _ (.inr (by omega))).mono ?_
      rintro e w2 ⟨rfl, hb2⟩
      have h2 := H1.out.below hb2
      obtain ⟨c0, c1, g0, g1, cF, ⟨r0v, r0⟩, r1, f1, rl, rne⟩ := h2.cells
      have H3 := Lib.hid (((h2.set0 (.string ⟨#[]⟩)).set1 (.string ⟨#[]⟩)).setErr 5)
      clear hb2 h2
      go_upto_region 5 with fail
      obtain ⟨W3, hW3⟩ : ∃ W3, ((w2.setCell ⟨F, 0, none⟩ (.string ⟨#[]⟩)).setCell ⟨F, 1, none⟩ (.string ⟨#[]⟩)).setCell ⟨R, 1, none⟩ (.iface 113 (.int .i64 ((5 : Nat) : Int))) = W3 := ⟨_, rfl⟩
      first | rw [hW3] | (change Code.wp _ _ _ _ (((w2.setCell ⟨F, 0, none⟩ (.string ⟨#[]⟩)).setCell ⟨F, 1, none⟩ (.string ⟨#[]⟩)).setCell ⟨R, 1, none⟩ (.iface 113 (.int .i64 ((5 : Nat) : Int)))); rw [hW3])
      have H3 := Lib.hid (show LE w W3 R F 5 (.string ⟨#[]⟩) (.string ⟨#[]⟩) by rw [← hW3]; exact H3.out)
      clear hW3 c0 c1 g0 g1 cF r0 r1 f1 rl rne
      obtain ⟨c0, c1, g0, g1, cF, -⟩ := H3.out.cells
      go_wp2_with fail
      refine (rtext_bad H3.out.re).mono ?_
      rintro e w' ⟨rfl, rfl⟩
      have h6 := (((H3.out.set1 (.string ⟨#[]⟩)).set0 (.string ⟨#[]⟩)).set1 (.string ⟨#[]⟩))
      have H6 := Lib.hid h6
      have x0 := h6.cells.1
      have x1 := h6.cells.2.1
      clear h6
      go_wp2
      refine bodyPost_ret (v := .agg #[.string ⟨#[]⟩, .string ⟨#[]⟩]) (by simp [results, Tryd.results104, go_sem, x0, x1]) rfl ⟨⟨_, _, rfl⟩, H6.out.re, H6.out.kp⟩
    · have HV := Lib.hid hv
      have hNi : (0 : Int) < ((N : Nat) : Int) := by omega
      have hNd := decide_eq_true hNi
      obtain ⟨f0, hf0⟩ : ∃ f0, (tAll ys).getD (N - 1) ([], []) = f0 := ⟨_, rfl⟩
      have HF0 := Lib.hid hf0
      clear hv hf0
      go_enter Tryd.func104, Tryd.ntmps104
      go_wp2_with fail
      rw [HW0.out, HF.out]
      refine (rnum_ok H0.out.rd hBR hm t N U1 HG.out).mono ?_
      rintro e w1 ⟨rfl, hr1, hk1⟩
      have h1 := H0.out.next hr1 hk1
      obtain ⟨c0, c1, -, -, cF, ⟨r0v, r0⟩, r1, f1, rl, rne⟩ := h1.cells
      have hC1 := (HH.out.keep h1.kp fun k hk he => HRC.out (he ▸ hk))
      obtain ⟨⟨cg, cSv, hCb⟩, hCt⟩ := hC1
      have d1 := hCb.cell 1
      have H1 := Lib.hid h1
      have HCT := Lib.hid hCt
      clear hr1 hk1 h1 hCb hCt
      go_upto_region 3 with fail
      clear hNi hNd r1
      go_wp2_with fail
      obtain ⟨k, rfl⟩ : ∃ k, N = k + 1 := ⟨N - 1, by omega⟩
      have hf0 : (tAll ys).getD k ([], []) = f0 := HF0.out
      have hki : (((k + 1 : Nat) : Int)) = (k : Int) + 1 := by omega
      rw [hki]
      refine (get_yes HCT.out k (by omega) f0 hf0).mono ?_
      rintro e w2 ⟨rfl, hb2⟩
      have h2 := H1.out.below hb2
      obtain ⟨c0, c1, g0, g1, cF, ⟨r0v, r0⟩, r1, f1, rl, rne⟩ := h2.cells
      have H3 := Lib.hid (((h2.set0 (.string ⟨f0.1.toArray⟩)).set1 (.string ⟨f0.2.toArray⟩)).noErr)
      clear hb2 h2 hf0 hki
      go_upto_region 5 with fail
      obtain ⟨W3, hW3⟩ : ∃ W3, ((w2.setCell ⟨F, 0, none⟩ (.string ⟨f0.1.toArray⟩)).setCell ⟨F, 1, none⟩ (.string ⟨f0.2.toArray⟩)).setCell ⟨R, 1, none⟩ .nilIface = W3 := ⟨_, rfl⟩
      rw [hW3]
      have H3 := Lib.hid (show LSt w W3 R B F (b.drop U1) (.string ⟨f0.1.toArray⟩) (.string ⟨f0.2.toArray⟩) by rw [← hW3]; exact H3.out)
      clear hW3 c0 c1 g0 g1 cF r0 r1 f1 rl rne
      go_wp2_with fail
      refine (rtext_fault H3.out.rd (by rw [List.length_drop]; omega) E HV.out HE.out).mono ?_
      rintro e w4 ⟨rfl, hr4, hk4⟩
      have h4 := H3.out.fault hr4 hk4
      obtain ⟨c0, c1, g0, g1, cF, -⟩ := h4.cells
      have h6 := ((h4.set1 (.string ⟨#[]⟩)).set0 (.string ⟨f0.1.toArray⟩)).set1 (.string ⟨#[]⟩)
      have H6 := Lib.hid h6
      have x0 := h6.cells.1
      have x1 := h6.cells.2.1
      clear hr4 hk4 h4 h6
      go_wp2
      refine bodyPost_ret (v := .agg #[.string ⟨f0.1.toArray⟩, .string ⟨#[]⟩]) (by simp [results, Tryd.results104, go_sem, x0, x1]) rfl ⟨⟨_, _, rfl⟩, H6.out.re, H6.out.kp⟩
    · have HV := Lib.hid hv
      clear hv
      go_enter Tryd.func104, Tryd.ntmps104
      go_wp2_with fail
      rw [HW0.out, HF.out]
      refine (rnum_ok H0.out.rd hBR hm t 0 U1 HG.out).mono ?_
      rintro e w1 ⟨rfl, hr1, hk1⟩
      have h1 := H0.out.next hr1 hk1
      obtain ⟨c0, c1, -, -, cF, ⟨r0v, r0⟩, r1, f1, rl, rne⟩ := h1.cells
      have H1 := Lib.hid h1
      clear hr1 hk1 h1
      go_wp2_with fail
      refine (rtext_fault H1.out.rd (by rw [List.length_drop]; omega) E HV.out HE.out).mono ?_
      rintro e w2 ⟨rfl, hr2, hk2⟩
      have h2 := H1.out.fault hr2 hk2
      have H3 := Lib.hid (h2.set0 (.string ⟨#[]⟩))
      clear c0 c1 cF r0 r1 f1 rl rne
      obtain ⟨c0, c1, g0, g1, cF, r1, f1, rl, rne⟩ := h2.cells
      clear hr2 hk2 h2
      go_upto_region 5 with fail
      obtain ⟨W3, hW3⟩ : ∃ W3, w2.setCell ⟨F, 0, none⟩ (.string ⟨#[]⟩) = W3 := ⟨_, rfl⟩
      rw [hW3]
      have H3 := Lib.hid (show LE w W3 R F E (.string ⟨#[]⟩) (.string ⟨#[]⟩) by rw [← hW3]; exact H3.out)
      clear hW3 c0 c1 g0 g1 cF r1 f1 rl rne
      obtain ⟨c0, c1, g0, g1, cF, -⟩ := H3.out.cells
      go_wp2_with fail
      refine (rtext_bad H3.out.re).mono ?_
      rintro e w' ⟨rfl, rfl⟩
      have h6 := (((H3.out.set1 (.string ⟨#[]⟩)).set0 (.string ⟨#[]⟩)).set1 (.string ⟨#[]⟩))
      have H6 := Lib.hid h6
      have x0 := h6.cells.1
      have x1 := h6.cells.2.1
      clear h6
      go_wp2
      refine bodyPost_ret (v := .agg #[.string ⟨#[]⟩, .string ⟨#[]⟩]) (by simp [results, Tryd.results104, go_sem, x0, x1]) rfl ⟨⟨_, _, rfl⟩, H6.out.re, H6.out.kp⟩
    · have HV := Lib.hid hv
      have HN := Lib.hid hn
      have hu2 := (readT_used (l := b.drop U1) (by rw [hn])).2.1
      rw [hn, List.length_drop] at hu2
      simp only at hu2
      clear hv hn
      go_enter Tryd.func104, Tryd.ntmps104
      go_wp2_with fail
      rw [HW0.out, HF.out]
      refine (rnum_ok H0.out.rd hBR hm t 0 U1 HG.out).mono ?_
      rintro e w1 ⟨rfl, hr1, hk1⟩
      have h1 := H0.out.next hr1 hk1
      obtain ⟨c0, c1, -, -, cF, ⟨r0v, r0⟩, r1, f1, rl, rne⟩ := h1.cells
      have H1 := Lib.hid h1
      clear hr1 hk1 h1
      go_wp2_with fail
      refine (rtext_ok H1.out.rd hBR (by rw [List.length_drop]; omega) n U2 HN.out).mono ?_
      rintro e w2 ⟨rfl, hr2, hk2⟩
      have h2 := H1.out.next hr2 hk2
      rw [List.drop_drop] at h2
      have H3 := Lib.hid (h2.set0 (.string ⟨n.toArray⟩))
      clear c0 c1 cF r0 r1 f1 rl rne
      obtain ⟨c0, c1, g0, g1, cF, -⟩ := h2.cells
      clear hr2 hk2 h2
      go_upto_region 5 with fail
      obtain ⟨W3, hW3⟩ : ∃ W3, w2.setCell ⟨F, 0, none⟩ (.string ⟨n.toArray⟩) = W3 := ⟨_, rfl⟩
      rw [hW3]
      have H3 := Lib.hid (show LSt w W3 R B F (b.drop (U1 + U2)) (.string ⟨n.toArray⟩) (.string ⟨#[]⟩) by rw [← hW3]; exact H3.out)
      clear hW3 c0 c1 g0 g1 cF
      go_wp2_with fail
      refine (rtext_fault H3.out.rd (by rw [List.length_drop]; omega) E HV.out HE.out).mono ?_
      rintro e w4 ⟨rfl, hr4, hk4⟩
      have h4 := H3.out.fault hr4 hk4
      obtain ⟨c0, c1, g0, g1, cF, -⟩ := h4.cells
      have h6 := ((h4.set1 (.string ⟨#[]⟩)).set0 (.string ⟨n.toArray⟩)).set1 (.string ⟨#[]⟩)
      have H6 := Lib.hid h6
      have x0 := h6.cells.1
      have x1 := h6.cells.2.1
      clear hr4 hk4 h4 h6
      go_wp2
      refine bodyPost_ret (v := .agg #[.string ⟨n.toArray⟩, .string ⟨#[]⟩]) (by simp [results, Tryd.results104, go_sem, x0, x1]) rfl ⟨⟨_, _, rfl⟩, H6.out.re, H6.out.kp⟩
end Go.Proofs.YtkbbkamnmdeagaaDoor
