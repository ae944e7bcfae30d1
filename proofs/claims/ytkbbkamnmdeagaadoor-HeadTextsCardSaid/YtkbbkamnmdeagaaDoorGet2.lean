/-
  The reference's Get where the first byte is not full. Condition: the length's bound.
-/
import Derived.Test.YtkbbkamnmdeagaaDoorGetA
import Derived.Test.YtkbbkamnmdeagaaDoorMem2
namespace Go.Proofs.YtkbbkamnmdeagaaDoor
open Go.RowKit

/-- The reference's Get. -/
theorem rget_one (r : List UInt8) (c0 : UInt8) (t : Nat) (ht : 1 ≤ t) (ht8 : t ≤ 8) (A : Option Addr) (n c : Nat) (hn : n = r.length + 1) (B : Nat) (w : World) (hr : Reads w B 1 A (r.length + 1) (bs (c0 :: r)))
    (hlt : c0.toNat % 2 ^ t < 2 ^ t - 1) :
    Calls Tryd.prog 20 #[.slice A n c, .int .i64 t] w fun e w' => e = .returned (.tuple #[.int .i64 (c0.toNat % 2 ^ t : Nat), .int .i64 1, .int .i64 0]) ∧ w = w' := by
  subst hn
  obtain ⟨b, off, rfl, _, hc⟩ := reads_byte (l := c0 :: r) hr (k := 0) (by simp)
  have h0 : w.cell? ⟨b, off, none⟩ = some (.int .u8 (c0.toNat : Int)) := hc
  have hb : c0.toNat < 256 := c0.toNat_lt
  have hp := pow2_bounds ht ht8
  have HC : ∀ W : World, Calls Tryd.prog 68 #[.int .i64 (t : Int)] W fun e w' => e = .returned (.int .i64 ((2 ^ t : Nat) : Int)) ∧ W = w' := by
    intro W
    have h := rpow_any (t : Int) (by omega) (by omega) W
    rw [Int.toNat_natCast] at h
    simpa using h
  have HH := Lib.hid HC
  have HX := Lib.hid (Int.natCast_emod c0.toNat (2 ^ t))
  clear hc hr HC
  generalize c0.toNat % 2 ^ t = x at *
  generalize c0.toNat = y at *
  generalize 2 ^ t = p at *
  have hx := HX.out.symm
  have hlt' : (x : Int) < (p : Int) - 1 := by omega
  clear hlt HX
  go_enter Tryd.func20, Tryd.ntmps20
  go_wp2_with (go_at_call 68; refine (HH.out _).mono ?_; rintro e w' ⟨rfl, rfl⟩)
  go_ret3
  refine ⟨?_, rfl⟩
  show Ending.returned (.tuple #[.int .i64 ((y : Int) % (p : Int)), .int .i64 1, .int .i64 0]) = _
  rw [hx]
end Go.Proofs.YtkbbkamnmdeagaaDoor
