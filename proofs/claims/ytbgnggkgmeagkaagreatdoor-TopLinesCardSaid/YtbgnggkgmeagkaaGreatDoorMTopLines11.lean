/-
  A coder's reader of pieces: its number, its text, where nothing is wrong. Condition: the bound on the bytes.
  A field that is no field of the table, as the coder reads it, where nothing is wrong. Condition: the bound on the bytes.
  A coder that hears: where its loop stands. No condition.
  slices.Concat at []api.Field, whatever slices it is handed; slices.Grow of nil. Condition: the bound on the bytes.
-/
import Derived.Test.YtbgnggkgmeagkaaGreatDoorMTopLines09
import Derived.Test.YtbgnggkgmeagkaaGreatDoorMTopLines10
import Derived.StillTailTactics
import Derived.Deep.CutRange
import Derived.Deep.LoopGhost
import Derived.Test.YtbgnggkgmeagkaaGreatDoorMTopLines03
import Derived.Lib.AppendZeros
set_option linter.unusedSimpArgs false
set_option linter.unusedVariables false
namespace Go.Proofs.YtbgnggkgmeagkaaGreatDoor
open Go.RowKit
attribute [local go_sem ↓] Go.wp_at_zero Go.wp_at_succ

theorem reads_keep {S : Nat → Prop} {w w' : World} {B size n : Nat} {A : Option Addr} {xs : List Value} (h : Reads w B size A n xs) (hk : Keep S w w') (hB : B ≤ w.heap.size) (hS : ∀ ad, A = some ad → ¬ S ad.block) : Reads w' B size A n xs := by
  refine ⟨h.1, fun h0 => ?_⟩
  obtain ⟨ad, e, hb, hc⟩ := h.2 h0
  refine ⟨ad, e, hb, fun j u hu => ?_⟩
  have h1 := hc j u hu
  have h2 := hk.block ad.block (by omega) (hS ad e)
  have h3 : (ad.add j).block = ad.block := block_of_add _ _
  rw [← h3] at h2
  have h4 := World.cell?_spot h1
  rw [← h1]
  unfold World.cell?
  rw [h2]
/-- A reader: its block, the bytes that are left and their block, no fault. -/
def Rd (w : World) (R B : Nat) (b : List UInt8) : Prop := ∃ a c, Blk w R 180 #[.slice a b.length c, .nilIface] ∧ b.length ≤ c ∧ Reads w w.heap.size 1 a b.length (bs b) ∧ ∀ ad, a = some ad → ad.block = B
theorem Rd.keep {S : Nat → Prop} {w w' : World} {R B : Nat} {b : List UInt8} (h : Rd w R B b) (hk : Keep S w w') (hB : ¬ S B) (hR : ¬ S R) : Rd w' R B b := by
  obtain ⟨a, c, h1, h2, h3, h4⟩ := h
  exact ⟨a, c, h1.keep hk hR, h2, (reads_keep h3 hk (Nat.le_refl _) fun ad e => by rw [h4 ad e]; exact hB).more hk.size, h4⟩
theorem rd_set {w w1 : World} {R B U : Nat} {b : List UInt8} {a : Option Addr} {c : Nat} (hb : Blk w R 180 #[.slice a b.length c, .nilIface]) (hc : b.length ≤ c) (hr : Reads w w.heap.size 1 a b.length (bs b)) (ha : ∀ ad, a = some ad → ad.block = B) (hRB : R ≠ B) (hU : U ≤ b.length) (hbw : Below w.heap.size w w1) (v : Value) (hv : v = .slice (if c = U then a else a.map (·.add U)) (b.length - U) (c - U)) :
    Rd ((w1.setCell ⟨R, 0, none⟩ v).setCell ⟨R, 1, none⟩ .nilIface) R B (b.drop U) ∧ Keep (fun k => k = R) w ((w1.setCell ⟨R, 0, none⟩ v).setCell ⟨R, 1, none⟩ .nilIface) := by
  subst hv
  have hk : Keep (fun k => k = R) w ((w1.setCell ⟨R, 0, none⟩ (.slice (if c = U then a else a.map (·.add U)) (b.length - U) (c - U))).setCell ⟨R, 1, none⟩ .nilIface) :=
    ((Keep.of_below (S := fun k => k = R) hbw).setCell (p := ⟨R, 0, none⟩) (.inl rfl) _).setCell (p := ⟨R, 1, none⟩) (.inl rfl) _
  have hab : ∀ ad, (if c = U then a else a.map (·.add U)) = some ad → ad.block = B := by
    intro ad he
    by_cases h : c = U
    · rw [if_pos h] at he
      exact ha ad he
    · rw [if_neg h] at he
      cases a with
      | none => simp at he
      | some a0 =>
        simp only [Option.map_some, Option.some.injEq] at he
        rw [← he, block_of_add]
        exact ha a0 rfl
  have h1 := ((hb.below hbw hb.lt).set_ 0 (.slice (if c = U then a else a.map (·.add U)) (b.length - U) (c - U))).set_ 1 .nilIface
  have hcut := hr.cut (k := U) (cap := c) hU hc
  rw [Nat.mul_one] at hcut
  have h2 := (reads_keep hcut hk (Nat.le_refl _) fun ad he => by rw [hab ad he]; exact fun e => hRB e.symm).more hk.size
  refine ⟨⟨_, c - U, by simpa [List.length_drop] using h1, by rw [List.length_drop]; omega, ?_, hab⟩, hk⟩
  simpa [bs_drop, List.length_drop] using h2
theorem rd_goes {w w1 : World} {R B U : Nat} {b : List UInt8} {bb off : Nat} {c : Nat} (hb : Blk w R 180 #[.slice (some ⟨bb, off, none⟩) b.length c, .nilIface]) (hc : b.length ≤ c) (hr : Reads w w.heap.size 1 (some ⟨bb, off, none⟩) b.length (bs b)) (ha : bb = B) (hRB : R ≠ B) (hU : U ≤ b.length) (hbw : Below w.heap.size w w1) :
    (c = U → Rd ((w1.setCell ⟨R, 0, none⟩ (.slice (some ⟨bb, off, none⟩) 0 0)).setCell ⟨R, 1, none⟩ .nilIface) R B (b.drop U) ∧ Keep (fun k => k = R) w ((w1.setCell ⟨R, 0, none⟩ (.slice (some ⟨bb, off, none⟩) 0 0)).setCell ⟨R, 1, none⟩ .nilIface)) ∧
    (¬ c = U → Rd ((w1.setCell ⟨R, 0, none⟩ (.slice (some ⟨bb, off + U, none⟩) (b.length - U) (c - U))).setCell ⟨R, 1, none⟩ .nilIface) R B (b.drop U) ∧ Keep (fun k => k = R) w ((w1.setCell ⟨R, 0, none⟩ (.slice (some ⟨bb, off + U, none⟩) (b.length - U) (c - U))).setCell ⟨R, 1, none⟩ .nilIface)) := by
  constructor
  · intro h
    exact rd_set hb hc hr (fun ad e => by cases e; exact ha) hRB hU hbw _ (by rw [if_pos h, h, Nat.sub_self, Nat.sub_eq_zero_of_le (by omega)])
  · intro h
    exact rd_set hb hc hr (fun ad e => by cases e; exact ha) hRB hU hbw _ (by rw [if_neg h]; simp [Addr.add])

set_option maxRecDepth 100000 in
set_option maxHeartbeats 4000000 in
theorem rnum_ok {w : World} {R B : Nat} {b : List UInt8} (h : Rd w R B b) (hRB : R ≠ B) (hm : b.length ≤ 140737488355328) (s : Int) (N U : Nat) (hV : getV b s = (N, U, 0)) :
    Calls Tryz.prog 94 #[.pointer (some ⟨R, 0, none⟩), .int .i64 s] w fun e w' => e = .returned (.int .i64 ((N : Nat) : Int)) ∧ Rd w' R B (b.drop U) ∧ Keep (fun k => k = R) w w' := by
  obtain ⟨a, c, hb, hc, hr, ha⟩ := h
  have hu := getV_used (l := b) (t := s) (by rw [hV])
  rw [hV] at hu
  simp only at hu
  obtain ⟨hu1, hu2, hu3⟩ := hu
  obtain ⟨bb, off, y0, rfl, hbB, -⟩ := reads_head hr (by omega)
  have hgo := rd_goes hb hc hr (ha _ rfl) hRB hu2 (Below.refl _ w)
  have c0 := hb.cell 0
  have c1 := hb.cell 1
  have f0 := hb.frozen 0
  have f1 := hb.frozen 1
  have hlt := hb.lt
  have HB := Lib.hid hb
  have HR := Lib.hid hr
  have HV := Lib.hid hV
  have HU := Lib.hid hu1
  clear hb hr hV hu1 hu3 ha hRB
  by_cases hcU : c = U
  · have HG := Lib.hid (hgo.1 hcU)
    subst hcU
    clear hgo
    go_enter Tryz.func94, Tryz.ntmps94
    go_wp2_with fail
    refine (wget_any b s _ _ _ rfl hc hm w.heap.size w HR.out).mono ?_
    rintro e w' ⟨rfl, rfl⟩
    rw [HV.out, errV_zero]
    go_wp2
    go_ret
    exact ⟨rfl, HG.out⟩
  · have HG := Lib.hid (hgo.2 hcU)
    clear hgo
    go_enter Tryz.func94, Tryz.ntmps94
    go_wp2_with fail
    refine (wget_any b s _ _ c rfl hc hm w.heap.size w HR.out).mono ?_
    rintro e w' ⟨rfl, rfl⟩
    rw [HV.out, errV_zero]
    go_wp2
    go_ret
    exact ⟨rfl, HG.out⟩
set_option maxRecDepth 100000 in
set_option maxHeartbeats 4000000 in
theorem rtext_ok {w : World} {R B : Nat} {b : List UInt8} (h : Rd w R B b) (hRB : R ≠ B) (hm : b.length ≤ 140737488355328) (t : List UInt8) (U : Nat) (hV : readT b = (t, U, 0)) :
    Calls Tryz.prog 151 #[.pointer (some ⟨R, 0, none⟩)] w fun e w' => e = .returned (.string ⟨t.toArray⟩) ∧ Rd w' R B (b.drop U) ∧ Keep (fun k => k = R) w w' := by
  obtain ⟨a, c, hb, hc, hr, ha⟩ := h
  have hu := readT_used (l := b) (by rw [hV])
  rw [hV] at hu
  simp only at hu
  obtain ⟨hu1, hu2, hu3⟩ := hu
  obtain ⟨bb, off, y0, rfl, hbB, -⟩ := reads_head hr (by omega)
  have hgo := fun w1 (hbw : Below w.heap.size w w1) => rd_goes hb hc hr (ha _ rfl) hRB hu2 hbw
  have c0 := hb.cell 0
  have c1 := hb.cell 1
  have f0 := hb.frozen 0
  have f1 := hb.frozen 1
  have hlt := hb.lt
  have HB := Lib.hid hb
  have HR := Lib.hid hr
  have HV := Lib.hid hV
  have HU := Lib.hid hu1
  have HGO := Lib.hid hgo
  clear hb hr hV hu1 hu3 ha hRB hgo
  by_cases hcU : c = U
  · subst hcU
    go_enter Tryz.func151, Tryz.ntmps151
    go_wp2_with fail
    refine (hread_any b _ _ _ rfl hc hm w HR.out).mono ?_
    rintro e w1 ⟨rfl, hb1⟩
    rw [HV.out, errV_zero]
    have hk := HB.out.below hb1 HB.out.lt
    have c0 := hk.cell 0
    have c1 := hk.cell 1
    have f0 := hk.frozen 0
    have f1 := hk.frozen 1
    have hlt := hk.lt
    have HG := Lib.hid ((HGO.out _ hb1).1 (by trivial))
    clear hk hb1
    go_wp2
    go_ret
    exact ⟨rfl, HG.out⟩
  · go_enter Tryz.func151, Tryz.ntmps151
    go_wp2_with fail
    refine (hread_any b _ _ _ rfl hc hm w HR.out).mono ?_
    rintro e w1 ⟨rfl, hb1⟩
    rw [HV.out, errV_zero]
    have hk := HB.out.below hb1 HB.out.lt
    have c0 := hk.cell 0
    have c1 := hk.cell 1
    have f0 := hk.frozen 0
    have f1 := hk.frozen 1
    have hlt := hk.lt
    have HG := Lib.hid ((HGO.out _ hb1).2 hcU)
    clear hk hb1
    go_wp2
    go_ret
    exact ⟨rfl, HG.out⟩
end Go.Proofs.YtbgnggkgmeagkaaGreatDoor
namespace Go.Proofs.YtbgnggkgmeagkaaGreatDoor
open Go.RowKit
variable {qq : Value × Value}
attribute [local go_sem ↓] Go.wp_at_zero Go.wp_at_succ

theorem litV_ok {ys : List Fld} {b : List UInt8} {t : Int} {f : Fld} {U : Nat} (h : litV ys b t = (f, U, 0)) : ∃ N U1, getV b t = (N, U1, 0) ∧ N ≤ 12 + ys.length ∧
    ((0 < N ∧ ∃ v U2, readT (b.drop U1) = (v, U2, 0) ∧ f = (((tAll ys).getD (N - 1) ([], [])).1, v) ∧ U = U1 + U2) ∨
     (N = 0 ∧ ∃ n U2 v U3, readT (b.drop U1) = (n, U2, 0) ∧ readT (b.drop (U1 + U2)) = (v, U3, 0) ∧ f = (n, v) ∧ U = U1 + U2 + U3)) := by
  obtain ⟨N, U1, E1, h1⟩ : ∃ N U1 E1, getV b t = (N, U1, E1) := ⟨_, _, _, rfl⟩
  obtain ⟨n, U2, E2, h2⟩ : ∃ n U2 E2, readT (b.drop U1) = (n, U2, E2) := ⟨_, _, _, rfl⟩
  obtain ⟨v, U3, E3, h3⟩ : ∃ v U3 E3, readT (b.drop (U1 + U2)) = (v, U3, E3) := ⟨_, _, _, rfl⟩
  simp only [litV, h1, h2, h3] at h
  by_cases e1 : E1 ≠ 0
  · rw [if_pos e1] at h
    simp at h
    exact absurd h.2.2 e1
  rw [if_neg e1] at h
  have e1' : E1 = 0 := Decidable.not_not.1 e1
  subst e1'
  by_cases e2 : 12 + ys.length < N
  · rw [if_pos e2] at h
    simp at h
  rw [if_neg e2] at h
  refine ⟨N, U1, h1, by omega, ?_⟩
  by_cases e3 : 0 < N
  · rw [if_pos e3] at h
    left
    by_cases e4 : E2 ≠ 0
    · rw [if_pos e4] at h
      simp at h
      exact absurd h.2.2 e4
    rw [if_neg e4] at h
    have e4' : E2 = 0 := Decidable.not_not.1 e4
    subst e4'
    simp at h
    exact ⟨e3, n, U2, h2, by rw [← h.1]; simp, h.2.symm⟩
  · rw [if_neg e3] at h
    right
    by_cases e4 : E2 ≠ 0
    · rw [if_pos e4] at h
      simp at h
      exact absurd h.2.2 e4
    rw [if_neg e4] at h
    have e4' : E2 = 0 := Decidable.not_not.1 e4
    subst e4'
    by_cases e5 : E3 ≠ 0
    · rw [if_pos e5] at h
      simp at h
      exact absurd h.2.2 e5
    rw [if_neg e5] at h
    have e5' : E3 = 0 := Decidable.not_not.1 e5
    subst e5'
    simp at h
    exact ⟨by omega, n, U2, v, U3, h2, h3, h.1.symm, h.2.symm⟩

/-- Between the pieces: the reader; the field's block; all else as it lay. -/
structure LSt (w wr : World) (R B F : Nat) (b : List UInt8) (x y : Value) : Prop where
  rd : Rd wr R B b
  fl : Blk wr F 41 #[x, y]
  kp : Keep (fun k => k = R) w wr
  bw : B < w.heap.size
  br : R ≠ B
  rw_ : R < w.heap.size
  fw : w.heap.size ≤ F
section
variable {w wr w1 : World} {R B F : Nat} {b b' : List UInt8} {x y : Value}
theorem LSt.next (h : LSt w wr R B F b x y) (hr : Rd w1 R B b') (hk : Keep (fun k => k = R) wr w1) : LSt w w1 R B F b' x y :=
  ⟨hr, h.fl.keep hk (by have := h.rw_; have := h.fw; omega), h.kp.trans hk fun i hi => .inl hi, h.bw, h.br, h.rw_, h.fw⟩
theorem LSt.below (h : LSt w wr R B F b x y) (hb : Below wr.heap.size wr w1) : LSt w w1 R B F b x y := by
  have hk : Keep (fun _ => False) wr w1 := Keep.of_below hb
  exact ⟨h.rd.keep hk (fun h => h) (fun h => h), h.fl.keep hk (fun h => h), h.kp.trans hk fun i hi => hi.elim, h.bw, h.br, h.rw_, h.fw⟩
theorem LSt.set0 (h : LSt w wr R B F b x y) (v : Value) : LSt w (wr.setCell ⟨F, 0, none⟩ v) R B F b v y := by
  have hk : Keep (fun k => k = F) wr (wr.setCell ⟨F, 0, none⟩ v) := (Keep.refl (fun k => k = F) wr).setCell (p := ⟨F, 0, none⟩) (.inl rfl) v
  have e1 := h.rw_
  have e2 := h.fw
  have e3 := h.bw
  refine ⟨h.rd.keep hk (by omega) (by omega), ?_, h.kp.trans hk fun i hi => .inr (by omega), h.bw, h.br, h.rw_, h.fw⟩
  have := h.fl.set_ 0 v
  simpa using this
theorem LSt.set1 (h : LSt w wr R B F b x y) (v : Value) : LSt w (wr.setCell ⟨F, 1, none⟩ v) R B F b x v := by
  have hk : Keep (fun k => k = F) wr (wr.setCell ⟨F, 1, none⟩ v) := (Keep.refl (fun k => k = F) wr).setCell (p := ⟨F, 1, none⟩) (.inl rfl) v
  have e1 := h.rw_
  have e2 := h.fw
  have e3 := h.bw
  refine ⟨h.rd.keep hk (by omega) (by omega), ?_, h.kp.trans hk fun i hi => .inr (by omega), h.bw, h.br, h.rw_, h.fw⟩
  have := h.fl.set_ 1 v
  simpa using this
theorem rd_noErr {wr : World} {R B : Nat} {b : List UInt8} (h : Rd wr R B b) (hRB : R ≠ B) : Rd (wr.setCell ⟨R, 1, none⟩ .nilIface) R B b ∧ Keep (fun k => k = R) wr (wr.setCell ⟨R, 1, none⟩ .nilIface) := by
  have hk : Keep (fun k => k = R) wr (wr.setCell ⟨R, 1, none⟩ .nilIface) := (Keep.refl (fun k => k = R) wr).setCell (p := ⟨R, 1, none⟩) (.inl rfl) _
  refine ⟨?_, hk⟩
  obtain ⟨a, c, h1, h2, h3, h4⟩ := h
  refine ⟨a, c, ?_, h2, (reads_keep h3 hk (Nat.le_refl _) fun ad e => by rw [h4 ad e]; exact fun e => hRB e.symm).more hk.size, h4⟩
  have := h1.set_ 1 .nilIface
  simpa using this
theorem LSt.noErr (h : LSt w wr R B F b x y) : LSt w (wr.setCell ⟨R, 1, none⟩ .nilIface) R B F b x y := by
  obtain ⟨h1, h2⟩ := rd_noErr h.rd h.br
  exact h.next h1 h2
theorem LSt.cells (h : LSt w wr R B F b x y) : wr.cell? ⟨F, 0, none⟩ = some x ∧ wr.cell? ⟨F, 1, none⟩ = some y ∧ wr.frozen? ⟨F, 0, none⟩ = false ∧ wr.frozen? ⟨F, 1, none⟩ = false ∧ F < wr.heap.size ∧
    (∃ v, wr.cell? ⟨R, 0, none⟩ = some v) ∧ wr.cell? ⟨R, 1, none⟩ = some .nilIface ∧ wr.frozen? ⟨R, 1, none⟩ = false ∧ R < wr.heap.size ∧ R ≠ F := by
  obtain ⟨a, c, h1, h2, h3, -⟩ := h.rd
  have e1 := h.rw_
  have e2 := h.fw
  exact ⟨h.fl.cell 0, h.fl.cell 1, h.fl.frozen 0, h.fl.frozen 1, h.fl.lt, ⟨_, h1.cell 0⟩, h1.cell 1, h1.frozen 1, h1.lt, by omega⟩
end

set_option maxRecDepth 100000 in
set_option maxHeartbeats 4000000 in
theorem lit_ok {w : World} {C h : Nat} {A : Option Addr} {c : Nat} {ys : List Fld} {my most : Nat} {bad : Bool} (H : CIn w C h A c ys my most bad qq) {R B : Nat} {b : List UInt8} (hr : Rd w R B b) (hB : B < w.heap.size) (hBR : R ≠ B) (hRC : ¬ iOwn C h A R) (hm : b.length ≤ 140737488355328) (t : Int) (f : Fld) (U : Nat) (hV : litV ys b t = (f, U, 0)) :
    Calls Tryz.prog 96 #[.pointer (some ⟨C, 0, none⟩), .pointer (some ⟨R, 0, none⟩), .int .i64 t] w fun e w' => e = .returned (.agg #[.string ⟨f.1.toArray⟩, .string ⟨f.2.toArray⟩]) ∧ Rd w' R B (b.drop U) ∧ Keep (fun k => k = R) w w' := by
  obtain ⟨N, U1, hg, hN, hcase⟩ := litV_ok hV
  have hRw : R < w.heap.size := by
    obtain ⟨a, cc, h1, _⟩ := hr
    exact h1.lt
  have hu1 := (getV_used (l := b) (t := t) (by rw [hg])).2.1
  rw [hg] at hu1
  simp only at hu1
  have h0 : LSt w (w.alloc (.cells #[.string ⟨#[]⟩, .string ⟨#[]⟩] 41)) R B w.heap.size b (.string ⟨#[]⟩) (.string ⟨#[]⟩) := by
    have hba : Below w.heap.size w (w.alloc (.cells #[.string ⟨#[]⟩, .string ⟨#[]⟩] 41)) := (Below.refl _ _).alloc (Nat.le_refl _) _
    have hk : Keep (fun _ => False) w (w.alloc (.cells #[.string ⟨#[]⟩, .string ⟨#[]⟩] 41)) := Keep.of_below hba
    exact ⟨hr.keep hk (fun h => h) (fun h => h), Blk.new w _ _, Keep.of_below hba, hB, hBR, hRw, Nat.le_refl _⟩
  obtain ⟨F, hF⟩ : ∃ F, w.heap.size = F := ⟨_, rfl⟩
  obtain ⟨W0, hW0⟩ : ∃ W0, w.alloc (.cells #[.string ⟨#[]⟩, .string ⟨#[]⟩] 41) = W0 := ⟨_, rfl⟩
  rw [hF, hW0] at h0
  have H0 := Lib.hid h0
  have HH := Lib.hid H
  have HG := Lib.hid hg
  have HF := Lib.hid hF
  have HW0 := Lib.hid hW0
  have HRC := Lib.hid hRC
  clear h0 H hg hF hW0 hr hRw hV
  rcases hcase with ⟨hN0, v, U2, hv, rfl, rfl⟩ | ⟨hN0, n, U2, v, U3, hn, hv, rfl, rfl⟩
  · have HV := Lib.hid hv
    have hu2 := (readT_used (l := b.drop U1) (by rw [hv])).2.1
    rw [hv, List.length_drop] at hu2
    simp only at hu2
    have hNi : (0 : Int) < ((N : Nat) : Int) := by omega
    have hNd := decide_eq_true hNi
    obtain ⟨f0, hf0⟩ : ∃ f0, (tAll ys).getD (N - 1) ([], []) = f0 := ⟨_, rfl⟩
    rw [hf0]
    have HF0 := Lib.hid hf0
    clear hv hf0
    go_enter Tryz.func96, Tryz.ntmps96
    go_wp2_with fail
    rw [HW0.out, HF.out]
    refine (rnum_ok H0.out.rd hBR hm t N U1 HG.out).mono ?_
    rintro e w1 ⟨rfl, hr1, hk1⟩
    have h1 := H0.out.next hr1 hk1
    obtain ⟨c0, c1, -, -, cF, ⟨r0v, r0⟩, r1, f1, rl, rne⟩ := h1.cells
    have hC1 := (HH.out.keep h1.kp fun k hk he => HRC.out (he ▸ hk))
    obtain ⟨hCb, hCt⟩ := hC1
    have d1 := hCb.cell 1
    have H1 := Lib.hid h1
    have HCT := Lib.hid hCt
    clear hr1 hk1 h1 hCb hCt
    go_upto_region 3 with fail
    clear hNi hNd r1
    go_wp2_with fail
    obtain ⟨k, rfl⟩ : ∃ k, N = k + 1 := ⟨N - 1, by omega⟩
    have hf0 : (tAll ys).getD k ([], []) = f0 := HF0.out
    have hki : (((k + 1 : Nat) : Int)) = (k : Int) + 1 := by omega
    rw [hki]
    refine (get_yes HCT.out k (by omega) f0 hf0).mono ?_
    rintro e w2 ⟨rfl, hb2⟩
    have h2 := H1.out.below hb2
    obtain ⟨c0, c1, g0, g1, cF, ⟨r0v, r0⟩, r1, f1, rl, rne⟩ := h2.cells
    have H3 := Lib.hid (((h2.set0 (.string ⟨f0.1.toArray⟩)).set1 (.string ⟨f0.2.toArray⟩)).noErr)
    clear hb2 h2 hf0 hki
    go_upto_region 5 with fail
    obtain ⟨W3, hW3⟩ : ∃ W3, ((w2.setCell ⟨F, 0, none⟩ (.string ⟨f0.1.toArray⟩)).setCell ⟨F, 1, none⟩ (.string ⟨f0.2.toArray⟩)).setCell ⟨R, 1, none⟩ .nilIface = W3 := ⟨_, rfl⟩
    rw [hW3]
    have H3 := Lib.hid (show LSt w W3 R B F (b.drop U1) (.string ⟨f0.1.toArray⟩) (.string ⟨f0.2.toArray⟩) by rw [← hW3]; exact H3.out)
    clear hW3 c0 c1 g0 g1 cF r0 r1 f1 rl rne
    go_wp2_with fail
    refine (rtext_ok H3.out.rd hBR (by rw [List.length_drop]; omega) v U2 HV.out).mono ?_
    rintro e w4 ⟨rfl, hr4, hk4⟩
    have h4 := H3.out.next hr4 hk4
    have h5 := h4.set1 (.string ⟨v.toArray⟩)
    obtain ⟨c0, c1, g0, g1, cF, -⟩ := h4.cells
    have h6 := (h5.set0 (.string ⟨f0.1.toArray⟩)).set1 (.string ⟨v.toArray⟩)
    have H6 := Lib.hid h6
    have x0 := h6.cells.1
    have x1 := h6.cells.2.1
    clear hr4 hk4 h4 h5 h6
    go_wp2
    refine bodyPost_ret (v := .agg #[.string ⟨f0.1.toArray⟩, .string ⟨v.toArray⟩]) (by simp [results, Tryz.results96, go_sem, x0, x1]) rfl ⟨rfl, ?_, H6.out.kp⟩
    have h := H6.out.rd
    rw [List.drop_drop] at h
    exact h
  · have HV := Lib.hid hv
    have HN := Lib.hid hn
    have hu2 := (readT_used (l := b.drop U1) (by rw [hn])).2.1
    rw [hn, List.length_drop] at hu2
    simp only at hu2
    subst hN0
    clear hv hn
    go_enter Tryz.func96, Tryz.ntmps96
    go_wp2_with fail
    rw [HW0.out, HF.out]
    refine (rnum_ok H0.out.rd hBR hm t 0 U1 HG.out).mono ?_
    rintro e w1 ⟨rfl, hr1, hk1⟩
    have h1 := H0.out.next hr1 hk1
    obtain ⟨c0, c1, -, -, cF, ⟨r0v, r0⟩, r1, f1, rl, rne⟩ := h1.cells
    have H1 := Lib.hid h1
    clear hr1 hk1 h1
    go_wp2_with fail
    refine (rtext_ok H1.out.rd hBR (by rw [List.length_drop]; omega) n U2 HN.out).mono ?_
    rintro e w2 ⟨rfl, hr2, hk2⟩
    have h2 := H1.out.next hr2 hk2
    rw [List.drop_drop] at h2
    have H3 := Lib.hid (h2.set0 (.string ⟨n.toArray⟩))
    clear c0 c1 cF r0 r1 f1 rl rne
    obtain ⟨c0, c1, g0, g1, cF, -⟩ := h2.cells
    clear hr2 hk2 h2
    go_upto_region 5 with fail
    obtain ⟨W3, hW3⟩ : ∃ W3, w2.setCell ⟨F, 0, none⟩ (.string ⟨n.toArray⟩) = W3 := ⟨_, rfl⟩
    rw [hW3]
    have H3 := Lib.hid (show LSt w W3 R B F (b.drop (U1 + U2)) (.string ⟨n.toArray⟩) (.string ⟨#[]⟩) by rw [← hW3]; exact H3.out)
    clear hW3 c0 c1 g0 g1 cF
    go_wp2_with fail
    refine (rtext_ok H3.out.rd hBR (by rw [List.length_drop]; omega) v U3 HV.out).mono ?_
    rintro e w4 ⟨rfl, hr4, hk4⟩
    have h4 := H3.out.next hr4 hk4
    have h5 := h4.set1 (.string ⟨v.toArray⟩)
    obtain ⟨c0, c1, g0, g1, cF, -⟩ := h4.cells
    have h6 := (h5.set0 (.string ⟨n.toArray⟩)).set1 (.string ⟨v.toArray⟩)
    have H6 := Lib.hid h6
    have x0 := h6.cells.1
    have x1 := h6.cells.2.1
    clear hr4 hk4 h4 h5 h6
    go_wp2
    refine bodyPost_ret (v := .agg #[.string ⟨n.toArray⟩, .string ⟨v.toArray⟩]) (by simp [results, Tryz.results96, go_sem, x0, x1]) rfl ⟨rfl, ?_, H6.out.kp⟩
    have h := H6.out.rd
    rw [List.drop_drop] at h
    exact h
end Go.Proofs.YtbgnggkgmeagkaaGreatDoor
namespace Go.Proofs.YtbgnggkgmeagkaaGreatDoor
open Go.RowKit
variable {qq : Value × Value}

/-- Between two pieces: the reader, the coder, the list so far. -/
structure DAt (w wr : World) (C h : Nat) (A A' : Option Addr) (c' R B : Nat) (b : List UInt8) (ys : List Fld) (my most : Nat) (v : Value) (acc : List Fld) (qq : Value × Value) : Prop where
  rd : Rd wr R B b
  ci : CIn wr C h A' c' ys my most false qq
  fr : ∀ k, iOwn C h A' k → iOwn C h A k ∨ w.heap.size ≤ k
  nR : ¬ iOwn C h A' R
  nv : ∀ k, v.ownBlock = some k → ¬ iOwn C h A' k
  row : wr.ownsRow w.heap.size 41 2 v acc.length (fvs acc)
  kp : Keep (iOwn C h A) w wr
  rb : w.heap.size ≤ R
  bw : B < w.heap.size
  bl : ¬ iOwn C h A' B
/-- The same, with a field's block beside. -/
structure DFt (w wr : World) (C h : Nat) (A A' : Option Addr) (c' R B : Nat) (b : List UInt8) (ys : List Fld) (my most : Nat) (v : Value) (acc : List Fld) (F : Nat) (x y : Value) (qq : Value × Value) : Prop where
  d : DAt w wr C h A A' c' R B b ys my most v acc qq
  fl : Blk wr F 41 #[x, y]
  vF : v.ownBlock ≠ some F
  aF : ¬ iOwn C h A' F
  fw : w.heap.size ≤ F
section
variable {w wr w1 : World} {C h R B my most c' F : Nat} {A A' : Option Addr} {b b' : List UInt8} {ys acc : List Fld} {v x y : Value}
theorem DAt.rlt (d : DAt w wr C h A A' c' R B b ys my most v acc qq) : R < wr.heap.size := by
  obtain ⟨a, c, h1, _⟩ := d.rd
  exact h1.lt
theorem DAt.vR (d : DAt w wr C h A A' c' R B b ys my most v acc qq) : v.ownBlock ≠ some R := by
  obtain ⟨a, c, h1, _⟩ := d.rd
  exact own_blk_ne d.row h1 (by decide)
theorem DAt.bR (d : DAt w wr C h A A' c' R B b ys my most v acc qq) : R ≠ B := by
  have h1 := d.bw
  have h2 := d.rb
  omega
/-- What stays: nothing of the reader's, the coder's, the list's own is touched. -/
theorem DAt.move {S : Nat → Prop} (d : DAt w wr C h A A' c' R B b ys my most v acc qq) (hk : Keep S wr w1) (h1 : ¬ S R) (h2 : ∀ k, iOwn C h A' k → ¬ S k) (h3 : ∀ k, v.ownBlock = some k → ¬ S k) (h5 : ∀ k, S k → w.heap.size ≤ k) : DAt w w1 C h A A' c' R B b ys my most v acc qq :=
  ⟨d.rd.keep hk (fun hs => by have := h5 B hs; have := d.bw; omega) h1, d.ci.keep hk h2, d.fr, d.nR, d.nv, ownRow_keep d.row hk h3, d.kp.trans hk fun i hi => .inr (h5 i hi), d.rb, d.bw, d.bl⟩
theorem DAt.next (d : DAt w wr C h A A' c' R B b ys my most v acc qq) (hb : Below wr.heap.size wr w1) : DAt w w1 C h A A' c' R B b ys my most v acc qq :=
  d.move (S := fun _ => False) (Keep.of_below hb) (fun h => h) (fun _ _ h => h) (fun _ _ h => h) fun _ h => h.elim
theorem DAt.read (d : DAt w wr C h A A' c' R B b ys my most v acc qq) (hr : Rd w1 R B b') (hk : Keep (fun k => k = R) wr w1) : DAt w w1 C h A A' c' R B b' ys my most v acc qq :=
  ⟨hr, d.ci.keep hk fun k hk he => d.nR (he ▸ hk), d.fr, d.nR, d.nv, ownRow_keep d.row hk fun k hk he => d.vR (he ▸ hk), d.kp.trans hk fun i hi => .inr (by rw [hi]; exact d.rb), d.rb, d.bw, d.bl⟩
theorem DAt.noErr (d : DAt w wr C h A A' c' R B b ys my most v acc qq) : DAt w (wr.setCell ⟨R, 1, none⟩ .nilIface) C h A A' c' R B b ys my most v acc qq := by
  obtain ⟨h1, h2⟩ := rd_noErr d.rd d.bR
  exact d.read h1 h2
theorem DAt.fld (d : DAt w wr C h A A' c' R B b ys my most v acc qq) (x y : Value) : DFt w (wr.alloc (.cells #[x, y] 41)) C h A A' c' R B b ys my most v acc wr.heap.size x y qq := by
  refine ⟨d.next ((Below.refl _ _).alloc (Nat.le_refl _) _), Blk.new wr _ _, fun e => ?_, fun e => ?_, d.kp.size⟩
  · have := (d.row.lt _ e).2
    omega
  · have := d.ci.lt _ e
    omega
theorem DFt.fR (d : DFt w wr C h A A' c' R B b ys my most v acc F x y qq) : F ≠ R := by
  obtain ⟨a, c, h1, _⟩ := d.d.rd
  exact Blk.ne_ d.fl h1 (by decide)
theorem DFt.next (d : DFt w wr C h A A' c' R B b ys my most v acc F x y qq) (hb : Below wr.heap.size wr w1) : DFt w w1 C h A A' c' R B b ys my most v acc F x y qq :=
  ⟨d.d.next hb, d.fl.below hb d.fl.lt, d.vF, d.aF, d.fw⟩
theorem DFt.read (d : DFt w wr C h A A' c' R B b ys my most v acc F x y qq) (hr : Rd w1 R B b') (hk : Keep (fun k => k = R) wr w1) : DFt w w1 C h A A' c' R B b' ys my most v acc F x y qq :=
  ⟨d.d.read hr hk, d.fl.keep hk d.fR, d.vF, d.aF, d.fw⟩
theorem DFt.noErr (d : DFt w wr C h A A' c' R B b ys my most v acc F x y qq) : DFt w (wr.setCell ⟨R, 1, none⟩ .nilIface) C h A A' c' R B b ys my most v acc F x y qq :=
  ⟨d.d.noErr, d.fl.keep ((Keep.refl (fun k => k = R) wr).setCell (p := ⟨R, 1, none⟩) (.inl rfl) _) d.fR, d.vF, d.aF, d.fw⟩
theorem DFt.put (d : DFt w wr C h A A' c' R B b ys my most v acc F x y qq) (x' y' : Value) : DFt w ((wr.setCell ⟨F, 0, none⟩ x').setCell ⟨F, 1, none⟩ y') C h A A' c' R B b ys my most v acc F x' y' qq := by
  have hk : Keep (fun k => k = F) wr ((wr.setCell ⟨F, 0, none⟩ x').setCell ⟨F, 1, none⟩ y') := ((Keep.refl (fun k => k = F) wr).setCell (p := ⟨F, 0, none⟩) (.inl rfl) _).setCell (p := ⟨F, 1, none⟩) (.inl rfl) _
  refine ⟨d.d.move hk (fun e => d.fR e.symm) (fun k hk he => d.aF (he ▸ hk)) (fun k hk he => d.vF (he ▸ hk)) (fun k he => ?_), ?_, d.vF, d.aF, d.fw⟩
  · rw [he]
    exact d.fw
  · have := (d.fl.set_ 0 x').set_ 1 y'
    simpa using this
theorem DFt.add (d : DFt w wr C h A A' c' R B b ys my most v acc F x y qq) (f : Fld) (ha : Added wr w1 h A' my ys f) : ∃ A2 c2, DFt w w1 C h A A2 c2 R B b (tAdd my ys f) my most v acc F x y qq := by
  obtain ⟨A2, c2, h1, h2, h3⟩ := ha
  obtain ⟨rd, ci, fr, nR, nv, row, kp, rb, bw, bl⟩ := d.d
  have hRl := d.d.rlt
  obtain ⟨hb, ht⟩ := ci
  have hCt : ¬ tOwn h A' C := by
    rintro (rfl | ⟨a, ha, he⟩)
    · exact Blk.ne_ hb ht.blk (by decide) rfl
    · have := own_blk_ne ht.own hb (by decide)
      rw [ha] at this
      exact this (by simp [Value.ownBlock, he])
  have hn : ∀ k, k < wr.heap.size → ¬ iOwn C h A' k → ¬ iOwn C h A2 k := by
    rintro k hk hn (rfl | ho)
    · exact hn (.inl rfl)
    · rcases h3 k ho with h4 | h4
      · exact hn (.inr h4)
      · omega
  refine ⟨A2, c2, ⟨rd.keep h2 (fun e => bl (.inr e)) (fun e => nR (.inr e)), ⟨hb.keep h2 hCt, h1⟩, ?_, hn R hRl nR, fun k hk => hn k (row.lt k hk).2 (nv k hk), ownRow_keep row h2 fun k hk ho => nv k hk (.inr ho), kp.trans h2 fun i hi => fr i (.inr hi), rb, bw, hn B (by have := kp.size; omega) bl⟩,
    d.fl.keep h2 (fun e => d.aF (.inr e)), d.vF, hn F d.fl.lt d.aF, d.fw⟩
  rintro k (rfl | ho)
  · exact fr k (.inl rfl)
  · rcases h3 k ho with h4 | h4
    · exact fr k (.inr h4)
    · exact .inr (Nat.le_trans kp.size h4)
/-- Behind sizes. -/
theorem DAt.size (d : DAt w wr C h A A' c' R B b ys my most v acc qq) {p : Nat} {zs : List Fld} (h1 : Tab w1 h A' c' zs p) (h2 : Keep (tOwn h A') wr w1) : DAt w w1 C h A A' c' R B b zs p most v acc qq := by
  obtain ⟨rd, ci, fr, nR, nv, row, kp, rb, bw, bl⟩ := d
  obtain ⟨hb, ht⟩ := ci
  have hCt : ¬ tOwn h A' C := by
    rintro (rfl | ⟨a, ha, he⟩)
    · exact Blk.ne_ hb ht.blk (by decide) rfl
    · have := own_blk_ne ht.own hb (by decide)
      rw [ha] at this
      exact this (by simp [Value.ownBlock, he])
  exact ⟨rd.keep h2 (fun e => bl (.inr e)) (fun e => nR (.inr e)), ⟨hb.keep h2 hCt, h1⟩, fr, nR, nv, ownRow_keep row h2 fun k hk ho => nv k hk (.inr ho), kp.trans h2 fun i hi => fr i (.inr hi), rb, bw, bl⟩
/-- Behind an append. -/
theorem DAt.push (d : DAt w wr C h A A' c' R B b ys my most v acc qq) (f : Fld) {v2 : Value} {w2 : World} (hown : w2.ownsRow w.heap.size 41 2 v2 (acc.length + 1) (fvs acc ++ fv f)) (hg : wr.grownBy w2 v.ownBlock) (hv : v2.ownBlock = v.ownBlock ∨ v2.ownBlock = some wr.heap.size) : DAt w w2 C h A A' c' R B b ys my most v2 (acc ++ [f]) qq := by
  have hk : Keep (fun k => v.ownBlock = some k) wr w2 := (Keep.refl (fun k => v.ownBlock = some k) wr).grown hg fun k hk => .inl hk
  have hvw : ∀ k, v.ownBlock = some k → w.heap.size ≤ k := fun k hk => (d.row.lt k hk).1
  refine ⟨d.rd.keep hk (fun e => by have := hvw B e; have := d.bw; omega) d.vR, d.ci.keep hk fun k hk he => d.nv k he hk, d.fr, d.nR, fun k hk hi => ?_, ?_, d.kp.trans hk fun i hi => .inr (hvw i hi), d.rb, d.bw, d.bl⟩
  · rcases hv with e | e
    · exact d.nv k (by rw [← e]; exact hk) hi
    · rw [e] at hk
      cases hk
      have := d.ci.lt _ hi
      omega
  · rw [List.length_append, fvs_append]
    simpa [fvs] using hown
theorem DAt.cells (d : DAt w wr C h A A' c' R B b ys my most v acc qq) : (∃ a c, wr.cell? ⟨R, 0, none⟩ = some (.slice a b.length c) ∧ (0 < b.length → ∃ bb off, a = some ⟨bb, off, none⟩ ∧ wr.cell? ⟨bb, off, none⟩ = some (.int .u8 (((b.headD 0).toNat : Nat) : Int)))) ∧ wr.cell? ⟨R, 1, none⟩ = some .nilIface ∧ wr.frozen? ⟨R, 1, none⟩ = false ∧ R < wr.heap.size ∧
    wr.cell? ⟨C, 1, none⟩ = some (.pointer (some ⟨h, 0, none⟩)) ∧ wr.cell? ⟨C, 2, none⟩ = some (.int .i64 ((most : Nat) : Int)) ∧ C < wr.heap.size := by
  obtain ⟨a, c, h1, h2, h3, -⟩ := d.rd
  obtain ⟨hb, ht⟩ := d.ci
  refine ⟨⟨a, c, h1.cell 0, fun h0 => ?_⟩, h1.cell 1, h1.frozen 1, h1.lt, hb.cell 1, hb.cell 2, hb.lt⟩
  obtain ⟨bb, off, y0, rfl, _, hc, hh, _⟩ := reads_head h3 h0
  exact ⟨bb, off, rfl, by rw [hh]; exact hc⟩
theorem DFt.cells (d : DFt w wr C h A A' c' R B b ys my most v acc F x y qq) : wr.cell? ⟨F, 0, none⟩ = some x ∧ wr.cell? ⟨F, 1, none⟩ = some y ∧ wr.frozen? ⟨F, 0, none⟩ = false ∧ wr.frozen? ⟨F, 1, none⟩ = false ∧ F < wr.heap.size :=
  ⟨d.fl.cell 0, d.fl.cell 1, d.fl.frozen 0, d.fl.frozen 1, d.fl.lt⟩
end
end Go.Proofs.YtbgnggkgmeagkaaGreatDoor
namespace Go.Proofs.YtbgnggkgmeagkaaGreatDoor
open Go.RowKit

set_option maxRecDepth 100000 in
set_option maxHeartbeats 1000000 in
theorem growF_any (n : Nat) (hn : n * 32 ≤ 140737488355328) (w : World) :
    Calls Tryz.prog 145 #[.slice none 0 0, .int .i64 (n : Int)] w fun e w' => ∃ v, e = .returned v ∧ w'.ownsRow w.heap.size 41 2 v 0 [] ∧ Below w.heap.size w w' := by
  rcases Nat.eq_zero_or_pos n with rfl | h0
  · go_enter Tryz.func145, Tryz.ntmps145
    go_wp2
    go_ret
    exact ⟨_, rfl, World.ownsRow_nil _ _ _ _, Below.refl _ _⟩
  · obtain ⟨i0, hi, hz0, hz1, hz2⟩ := info_parts fld_info
    have hneg : ¬ ((n : Int) < 0) := by omega
    have hpos : (0 : Int) < (n : Int) := by omega
    have hG := grownCap_ge w n 0 41
    have hG63 := grownCap_le_maxLen w n 0 41 (by unfold maxLen; omega)
    have hrun := fun ty => Lib.run_append_nil_zeros (P := Tryz.prog) w 22 3 ty 41 i0 (.agg #[.string ⟨#[]⟩, .string ⟨#[]⟩] : Value) .i64 .i64 Tryz.underlying22 Tryz.underlying3 hi hz0 n h0 (by omega) (by omega) (by rw [hz2]; omega)
    obtain ⟨G, hGe⟩ : ∃ G, grownCap w n 0 41 = G := ⟨_, rfl⟩
    rw [hGe] at hG hG63 hrun
    obtain ⟨CS, hCS⟩ : ∃ CS, Builtin.zeroCells (.agg #[.string ⟨#[]⟩, .string ⟨#[]⟩] : Value).cells n ++ Builtin.zeroCells (.agg #[.string ⟨#[]⟩, .string ⟨#[]⟩] : Value).cells (G - n) = CS := ⟨_, rfl⟩
    have hsz : CS.size = G * 2 := by
      rw [← hCS, Array.size_append, zeroCells_size, zeroCells_size]
      have : (.agg #[.string ⟨#[]⟩, .string ⟨#[]⟩] : Value).cells.size = 2 := by rfl
      rw [this, ← Nat.add_mul]
      congr 1
      omega
    rw [hCS] at hrun
    have HSZ := Lib.hid hsz
    have hGI : (0 : Int) ≤ (G : Int) := by omega
    unfold maxLen at hG63
    clear hi hz0 hz1 hz2 hGe hCS hsz
    go_enter Tryz.func145, Tryz.ntmps145
    go_wp2_with (at_builtin; refine Lib.wpList_append_run _ rfl _ _ _ _ rfl _ _ rfl rfl _ _ (hrun _) ?_)
    go_ret
    refine ⟨_, rfl, ⟨rfl, .inr ⟨w.heap.size, G, CS, rfl, Nat.le_refl _, heap_alloc_new _ _, by omega, by unfold maxLen; omega, HSZ.out, by simp⟩⟩, ((Below.refl _ _).drew).alloc (Nat.le_refl _) _⟩

set_option maxRecDepth 100000 in
set_option maxHeartbeats 4000000 in
theorem concatF_any (ps : List Part) (pb : Nat) (w : World) (hps : PartsAt w 2 pb ps) (hm : total ps * 32 ≤ 140737488355328) (hl : ps.length ≤ 1000000) :
    Calls Tryz.prog 88 #[.slice (some ⟨pb, 0, none⟩) ps.length ps.length] w fun e w' => ∃ v, e = .returned v ∧ w'.ownsRow w.heap.size 41 2 v (total ps) (flat ps) ∧ Below w.heap.size w w' := by
  obtain ⟨i0, hi, hz0, hz1, hz2⟩ := info_parts fld_info
  have HI := Lib.hid hi
  have HZ0 := Lib.hid hz0
  have HZ1 := Lib.hid hz1
  have HZ2 := Lib.hid hz2
  have HP := Lib.hid hps
  clear hi hz0 hz1 hz2 hps
  go_enter Tryz.func88, Tryz.ntmps88
  go_wp2
  go_loop [3, 11] (fun t i => ∃ k : Nat, k ≤ ps.length ∧ i = .int .i64 (k : Int) ∧ t = .int .i64 ((total (ps.take k) : Nat) : Int)) (fun _ i => ps.length - (intOf i).toNat)
  case atStart => exact ⟨0, Nat.zero_le _, rfl, rfl⟩
  case round =>
    obtain ⟨k, hk, rfl, rfl⟩ := hrel
    have hle := total_take_le ps k
    have hb : total (ps.take k) ≤ 140737488355328 := by omega
    by_cases hlt : k < ps.length
    · have hsn := total_take_succ ps k hlt
      have hle2 := total_take_le ps (k + 1)
      obtain ⟨c0, _⟩ := HP.out k hlt
      have HS := Lib.hid hsn
      have hn : ps[k].n ≤ 140737488355328 := by omega
      clear hsn
      generalize ps[k].n = n at *
      generalize ps[k].A = A at *
      generalize ps[k].c = c at *
      go_wp2
      go_round
      case rel => exact ⟨k + 1, by omega, by go_num, by rw [HS.out]; go_num⟩
      case measure => simp [intOf]; omega
    · have hke : ps.take k = ps := List.take_of_length_le (by omega)
      rw [hke]
      clear hke
      go_wp2_with (go_at_call 145; refine (growF_any _ (by omega) _).mono ?_; rintro e w1 ⟨v, rfl, hown, hb1⟩)
      go_loopw [6, 27] (fun v i wr => ∃ k : Nat, k ≤ ps.length ∧ i = .int .i64 (k : Int) ∧ Hid (wr.ownsRow w.heap.size 41 2 v (total (ps.take k)) (flat (ps.take k)) ∧ Below w.heap.size w wr)) (fun _ i _ => ps.length - (intOf i).toNat)
      case atStart => exact ⟨0, Nat.zero_le _, rfl, hown, hb1⟩
      case round =>
        obtain ⟨k, hk, rfl, HR⟩ := hrel
        clear hown hb1
        by_cases hlt : k < ps.length
        · obtain ⟨c0, hr⟩ := HP.out k hlt
          have hsn := total_take_succ ps k hlt
          have hfl := flat_take_succ ps k hlt
          have hle2 := total_take_le ps (k + 1)
          have hone := (HP.out k hlt).2.2
          obtain ⟨ho, hbw⟩ := HR.out
          have c1 := cell_belowP hbw c0
          have hr2 := hr.1.below hbw
          have HS := Lib.hid hsn
          have HF := Lib.hid hfl
          have HO := Lib.hid ho
          have hsum : total (ps.take k) + ps[k].n ≤ total ps := by omega
          have hbs := hbw.size
          have hby : (total (ps.take k) + ps[k].n) * 32 ≤ total ps * 32 := Nat.mul_le_mul_right _ hsum
          clear hsn hfl ho hr
          generalize ps[k].n = n at *
          generalize ps[k].A = A at *
          generalize ps[k].c = c at *
          generalize ps[k].xs = xs at *
          clear c0
          go_wp2_with (at_builtin; refine wpList_append_any _ rfl _ _ 22 rfl w.heap.size 41 i0 (.agg #[.string ⟨#[]⟩, .string ⟨#[]⟩] : Value) 2 32 Tryz.underlying22 HI.out HZ0.out HZ1.out HZ2.out rfl (by decide) _ _ _ rfl HO.out w.heap.size A n c xs rfl hr2 hone (by unfold maxLen; omega) (by omega) hbs ?_; intro v2 w2 hown2 hg2 _)
          go_roundw
          case rel => exact ⟨k + 1, by omega, by go_num, by rw [HS.out, HF.out]; exact hown2, below_append hbw HO.out hg2 hbs⟩
          case measure => simp [intOf]; omega
        · have hke : ps.take k = ps := List.take_of_length_le (by omega)
          rw [hke] at HR
          clear hke
          go_wp2
          go_ret
          exact ⟨_, rfl, HR.out.1, HR.out.2⟩
end Go.Proofs.YtbgnggkgmeagkaaGreatDoor
