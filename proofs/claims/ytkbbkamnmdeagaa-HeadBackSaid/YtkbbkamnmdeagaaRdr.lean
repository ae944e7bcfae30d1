/-
  A coder's reader of pieces: its number, its text, where nothing is wrong. Condition: the bound on the bytes.
-/
import Derived.Test.YtkbbkamnmdeagaaCoder2
import Derived.Test.YtkbbkamnmdeagaaHeadLaw
import Derived.Test.YtkbbkamnmdeagaaAdd
import Derived.Test.YtkbbkamnmdeagaaQuietIn
import Derived.StillTailTactics
namespace Go.Proofs.Ytkbbkamnmdeagaa
open Go.RowKit
attribute [local go_sem ↓] Go.wp_at_zero Go.wp_at_succ

theorem reads_keep {S : Nat → Prop} {w w' : World} {B size n : Nat} {A : Option Addr} {xs : List Value} (h : Reads w B size A n xs) (hk : Keep S w w') (hB : B ≤ w.heap.size) (hS : ∀ ad, A = some ad → ¬ S ad.block) : Reads w' B size A n xs := by
  refine ⟨h.1, fun h0 => ?_⟩
  obtain ⟨ad, e, hb, hc⟩ := h.2 h0
  refine ⟨ad, e, hb, fun j u hu => ?_⟩
  have h1 := hc j u hu
  have h2 := hk.block ad.block (by omega) (hS ad e)
  have h3 : (ad.add j).block = ad.block := block_of_add _ _
  rw [← h3] at h2
  have h4 := World.cell?_spot h1
  rw [← h1]
  unfold World.cell?
  rw [h2]
/-- A reader: its block, the bytes that are left and their block, no fault. -/
def Rd (w : World) (R B : Nat) (b : List UInt8) : Prop := ∃ a c, Blk w R 89 #[.slice a b.length c, .nilIface] ∧ b.length ≤ c ∧ Reads w w.heap.size 1 a b.length (bs b) ∧ ∀ ad, a = some ad → ad.block = B
theorem Rd.keep {S : Nat → Prop} {w w' : World} {R B : Nat} {b : List UInt8} (h : Rd w R B b) (hk : Keep S w w') (hB : ¬ S B) (hR : ¬ S R) : Rd w' R B b := by
  obtain ⟨a, c, h1, h2, h3, h4⟩ := h
  exact ⟨a, c, h1.keep hk hR, h2, (reads_keep h3 hk (Nat.le_refl _) fun ad e => by rw [h4 ad e]; exact hB).more hk.size, h4⟩
theorem rd_set {w w1 : World} {R B U : Nat} {b : List UInt8} {a : Option Addr} {c : Nat} (hb : Blk w R 89 #[.slice a b.length c, .nilIface]) (hc : b.length ≤ c) (hr : Reads w w.heap.size 1 a b.length (bs b)) (ha : ∀ ad, a = some ad → ad.block = B) (hRB : R ≠ B) (hU : U ≤ b.length) (hbw : Below w.heap.size w w1) (v : Value) (hv : v = .slice (if c = U then a else a.map (·.add U)) (b.length - U) (c - U)) :
    Rd ((w1.setCell ⟨R, 0, none⟩ v).setCell ⟨R, 1, none⟩ .nilIface) R B (b.drop U) ∧ Keep (fun k => k = R) w ((w1.setCell ⟨R, 0, none⟩ v).setCell ⟨R, 1, none⟩ .nilIface) := by
  subst hv
  have hk : Keep (fun k => k = R) w ((w1.setCell ⟨R, 0, none⟩ (.slice (if c = U then a else a.map (·.add U)) (b.length - U) (c - U))).setCell ⟨R, 1, none⟩ .nilIface) :=
    ((Keep.of_below (S := fun k => k = R) hbw).setCell (p := ⟨R, 0, none⟩) (.inl rfl) _).setCell (p := ⟨R, 1, none⟩) (.inl rfl) _
  have hab : ∀ ad, (if c = U then a else a.map (·.add U)) = some ad → ad.block = B := by
    intro ad he
    by_cases h : c = U
    · rw [if_pos h] at he
      exact ha ad he
    · rw [if_neg h] at he
      cases a with
      | none => simp at he
      | some a0 =>
        simp only [Option.map_some, Option.some.injEq] at he
        rw [← he, block_of_add]
        exact ha a0 rfl
  have h1 := ((hb.below hbw hb.lt).set_ 0 (.slice (if c = U then a else a.map (·.add U)) (b.length - U) (c - U))).set_ 1 .nilIface
  have hcut := hr.cut (k := U) (cap := c) hU hc
  rw [Nat.mul_one] at hcut
  have h2 := (reads_keep hcut hk (Nat.le_refl _) fun ad he => by rw [hab ad he]; exact fun e => hRB e.symm).more hk.size
  refine ⟨⟨_, c - U, by simpa [List.length_drop] using h1, by rw [List.length_drop]; omega, ?_, hab⟩, hk⟩
  simpa [bs_drop, List.length_drop] using h2
theorem rd_goes {w w1 : World} {R B U : Nat} {b : List UInt8} {bb off : Nat} {c : Nat} (hb : Blk w R 89 #[.slice (some ⟨bb, off, none⟩) b.length c, .nilIface]) (hc : b.length ≤ c) (hr : Reads w w.heap.size 1 (some ⟨bb, off, none⟩) b.length (bs b)) (ha : bb = B) (hRB : R ≠ B) (hU : U ≤ b.length) (hbw : Below w.heap.size w w1) :
    (c = U → Rd ((w1.setCell ⟨R, 0, none⟩ (.slice (some ⟨bb, off, none⟩) 0 0)).setCell ⟨R, 1, none⟩ .nilIface) R B (b.drop U) ∧ Keep (fun k => k = R) w ((w1.setCell ⟨R, 0, none⟩ (.slice (some ⟨bb, off, none⟩) 0 0)).setCell ⟨R, 1, none⟩ .nilIface)) ∧
    (¬ c = U → Rd ((w1.setCell ⟨R, 0, none⟩ (.slice (some ⟨bb, off + U, none⟩) (b.length - U) (c - U))).setCell ⟨R, 1, none⟩ .nilIface) R B (b.drop U) ∧ Keep (fun k => k = R) w ((w1.setCell ⟨R, 0, none⟩ (.slice (some ⟨bb, off + U, none⟩) (b.length - U) (c - U))).setCell ⟨R, 1, none⟩ .nilIface)) := by
  constructor
  · intro h
    exact rd_set hb hc hr (fun ad e => by cases e; exact ha) hRB hU hbw _ (by rw [if_pos h, h, Nat.sub_self, Nat.sub_eq_zero_of_le (by omega)])
  · intro h
    exact rd_set hb hc hr (fun ad e => by cases e; exact ha) hRB hU hbw _ (by rw [if_neg h]; simp [Addr.add])

set_option maxRecDepth 100000 in
set_option maxHeartbeats 4000000 in
theorem rnum_ok {w : World} {R B : Nat} {b : List UInt8} (h : Rd w R B b) (hRB : R ≠ B) (hm : b.length ≤ 140737488355328) (s : Int) (N U : Nat) (hV : getV b s = (N, U, 0)) :
    Calls Try.prog 44 #[.pointer (some ⟨R, 0, none⟩), .int .i64 s] w fun e w' => e = .returned (.int .i64 ((N : Nat) : Int)) ∧ Rd w' R B (b.drop U) ∧ Keep (fun k => k = R) w w' := by
  obtain ⟨a, c, hb, hc, hr, ha⟩ := h
  have hu := getV_used (l := b) (t := s) (by rw [hV])
  rw [hV] at hu
  simp only at hu
  obtain ⟨hu1, hu2, hu3⟩ := hu
  obtain ⟨bb, off, y0, rfl, hbB, -⟩ := reads_head hr (by omega)
  have hgo := rd_goes hb hc hr (ha _ rfl) hRB hu2 (Below.refl _ w)
  have c0 := hb.cell 0
  have c1 := hb.cell 1
  have f0 := hb.frozen 0
  have f1 := hb.frozen 1
  have hlt := hb.lt
  have HB := Lib.hid hb
  have HR := Lib.hid hr
  have HV := Lib.hid hV
  have HU := Lib.hid hu1
  clear hb hr hV hu1 hu3 ha hRB
  by_cases hcU : c = U
  · have HG := Lib.hid (hgo.1 hcU)
    subst hcU
    clear hgo
    go_enter Try.func44, Try.ntmps44
    go_wp2_with fail
    refine (wget_any b s _ _ _ rfl hc hm w.heap.size w HR.out).mono ?_
    rintro e w' ⟨rfl, rfl⟩
    rw [HV.out, errV_zero]
    go_wp2
    go_ret
    exact ⟨rfl, HG.out⟩
  · have HG := Lib.hid (hgo.2 hcU)
    clear hgo
    go_enter Try.func44, Try.ntmps44
    go_wp2_with fail
    refine (wget_any b s _ _ c rfl hc hm w.heap.size w HR.out).mono ?_
    rintro e w' ⟨rfl, rfl⟩
    rw [HV.out, errV_zero]
    go_wp2
    go_ret
    exact ⟨rfl, HG.out⟩
set_option maxRecDepth 100000 in
set_option maxHeartbeats 4000000 in
theorem rtext_ok {w : World} {R B : Nat} {b : List UInt8} (h : Rd w R B b) (hRB : R ≠ B) (hm : b.length ≤ 140737488355328) (t : List UInt8) (U : Nat) (hV : readT b = (t, U, 0)) :
    Calls Try.prog 49 #[.pointer (some ⟨R, 0, none⟩)] w fun e w' => e = .returned (.string ⟨t.toArray⟩) ∧ Rd w' R B (b.drop U) ∧ Keep (fun k => k = R) w w' := by
  obtain ⟨a, c, hb, hc, hr, ha⟩ := h
  have hu := readT_used (l := b) (by rw [hV])
  rw [hV] at hu
  simp only at hu
  obtain ⟨hu1, hu2, hu3⟩ := hu
  obtain ⟨bb, off, y0, rfl, hbB, -⟩ := reads_head hr (by omega)
  have hgo := fun w1 (hbw : Below w.heap.size w w1) => rd_goes hb hc hr (ha _ rfl) hRB hu2 hbw
  have c0 := hb.cell 0
  have c1 := hb.cell 1
  have f0 := hb.frozen 0
  have f1 := hb.frozen 1
  have hlt := hb.lt
  have HB := Lib.hid hb
  have HR := Lib.hid hr
  have HV := Lib.hid hV
  have HU := Lib.hid hu1
  have HGO := Lib.hid hgo
  clear hb hr hV hu1 hu3 ha hRB hgo
  by_cases hcU : c = U
  · subst hcU
    go_enter Try.func49, Try.ntmps49
    go_wp2_with fail
    refine (hread_any b _ _ _ rfl hc hm w HR.out).mono ?_
    rintro e w1 ⟨rfl, hb1⟩
    rw [HV.out, errV_zero]
    have hk := HB.out.below hb1 HB.out.lt
    have c0 := hk.cell 0
    have c1 := hk.cell 1
    have f0 := hk.frozen 0
    have f1 := hk.frozen 1
    have hlt := hk.lt
    have HG := Lib.hid ((HGO.out _ hb1).1 (by trivial))
    clear hk hb1
    go_wp2
    go_ret
    exact ⟨rfl, HG.out⟩
  · go_enter Try.func49, Try.ntmps49
    go_wp2_with fail
    refine (hread_any b _ _ _ rfl hc hm w HR.out).mono ?_
    rintro e w1 ⟨rfl, hb1⟩
    rw [HV.out, errV_zero]
    have hk := HB.out.below hb1 HB.out.lt
    have c0 := hk.cell 0
    have c1 := hk.cell 1
    have f0 := hk.frozen 0
    have f1 := hk.frozen 1
    have hlt := hk.lt
    have HG := Lib.hid ((HGO.out _ hb1).2 hcU)
    clear hk hb1
    go_wp2
    go_ret
    exact ⟨rfl, HG.out⟩
end Go.Proofs.Ytkbbkamnmdeagaa
