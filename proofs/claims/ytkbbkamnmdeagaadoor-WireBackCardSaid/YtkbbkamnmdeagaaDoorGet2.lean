/-
  wire.Get and the reference's Get, each by one contract. Condition: the length's bound.
-/
import Derived.Test.YtkbbkamnmdeagaaDoorGet
namespace Go.Proofs.YtkbbkamnmdeagaaDoor
open Go.RowKit

theorem wget_any (l : List UInt8) (s : Int) (A : Option Addr) (n c : Nat) (hn : n = l.length) (hcap : l.length ≤ c) (hm : l.length ≤ 140737488355328) (B : Nat) (w : World) (hr : Reads w B 1 A l.length (bs l)) :
    Calls Tryd.prog 21 #[.slice A n c, .int .i64 s] w fun e w' => e = .returned (.tuple #[.int .i64 (getV l s).1, .int .i64 (getV l s).2.1, errV (getV l s).2.2]) ∧ w = w' := by
  subst hn
  by_cases h1 : s < 1 ∨ 8 < s
  · have e1 : getV l s = (0, 0, 1) := by simp [getV, h1]
    rw [e1]
    clear e1 hr
    rcases h1 with h1 | h1
    all_goals
      go_enter Tryd.func21, Tryd.ntmps21
      go_wp2
      go_ret3
      exact ⟨rfl, rfl⟩
  obtain ⟨t, rfl⟩ := Int.eq_ofNat_of_zero_le (show 0 ≤ s by omega)
  match l, hcap, hm, hr with
  | [], hcap, hm, hr =>
    have e1 : getV [] (t : Int) = (0, 0, 8) := by simp [getV, h1]
    rw [e1]
    simp only [List.length_nil]
    clear e1 hr
    go_enter Tryd.func21, Tryd.ntmps21
    go_wp2
    go_ret3
    exact ⟨rfl, rfl⟩
  | c0 :: r, hcap, hm, hr =>
    simp only [List.length_cons] at hcap hm hr
    by_cases hlt : c0.toNat % 2 ^ t < 2 ^ t - 1
    · have e1 : getV (c0 :: r) (t : Int) = (c0.toNat % 2 ^ t, 1, 0) := by simp [getV, h1, hlt]
      rw [e1]
      exact wget_one r c0 t (by omega) (by omega) A _ c rfl B w hr hlt
    · have e1 : getV (c0 :: r) (t : Int) = getFrom 0 (c0.toNat % 2 ^ t) r := by simp [getV, h1, hlt]
      rw [e1]
      exact wget_more r c0 t (by omega) (by omega) A _ c rfl hcap (by omega) B w hr hlt _ _ _ rfl

/-- The reference's Get. -/
theorem rget_one (r : List UInt8) (c0 : UInt8) (t : Nat) (ht : 1 ≤ t) (ht8 : t ≤ 8) (A : Option Addr) (n c : Nat) (hn : n = r.length + 1) (B : Nat) (w : World) (hr : Reads w B 1 A (r.length + 1) (bs (c0 :: r)))
    (hlt : c0.toNat % 2 ^ t < 2 ^ t - 1) :
    Calls Tryd.prog 20 #[.slice A n c, .int .i64 t] w fun e w' => e = .returned (.tuple #[.int .i64 (c0.toNat % 2 ^ t : Nat), .int .i64 1, .int .i64 0]) ∧ w = w' := by
  subst hn
  obtain ⟨b, off, rfl, _, hc⟩ := reads_byte (l := c0 :: r) hr (k := 0) (by simp)
  have h0 : w.cell? ⟨b, off, none⟩ = some (.int .u8 (c0.toNat : Int)) := hc
  have hb : c0.toNat < 256 := c0.toNat_lt
  have hp := pow2_bounds ht ht8
  have HC : ∀ W : World, Calls Tryd.prog 68 #[.int .i64 (t : Int)] W fun e w' => e = .returned (.int .i64 ((2 ^ t : Nat) : Int)) ∧ W = w' := by
    intro W
    have h := rpow_any (t : Int) (by omega) (by omega) W
    rw [Int.toNat_natCast] at h
    simpa using h
  have HH := Lib.hid HC
  have HX := Lib.hid (Int.natCast_emod c0.toNat (2 ^ t))
  clear hc hr HC
  generalize c0.toNat % 2 ^ t = x at *
  generalize c0.toNat = y at *
  generalize 2 ^ t = p at *
  have hx := HX.out.symm
  have hlt' : (x : Int) < (p : Int) - 1 := by omega
  clear hlt HX
  go_enter Tryd.func20, Tryd.ntmps20
  go_wp2_with (go_at_call 68; refine (HH.out _).mono ?_; rintro e w' ⟨rfl, rfl⟩)
  go_ret3
  refine ⟨?_, rfl⟩
  show Ending.returned (.tuple #[.int .i64 ((y : Int) % (p : Int)), .int .i64 1, .int .i64 0]) = _
  rw [hx]
end Go.Proofs.YtkbbkamnmdeagaaDoor
