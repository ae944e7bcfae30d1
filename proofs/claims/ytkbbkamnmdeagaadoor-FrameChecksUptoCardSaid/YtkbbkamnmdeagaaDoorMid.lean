/-
  Slices of bytes that are read: their middle, their head; worlds that differ by draws. No condition.
-/
import Derived.Test.YtkbbkamnmdeagaaDoorStr
namespace Go.Proofs.YtkbbkamnmdeagaaDoor
open Go.RowKit

theorem reads_mid {w : World} {B b off at_ n c : Nat} {l : List UInt8} (h : Reads w B 1 (some ⟨b, off, none⟩) l.length (bs l)) (hn : at_ + n ≤ l.length) (hc : l.length ≤ c) :
    Reads w B 1 (if c = at_ then some ⟨b, off, none⟩ else some ⟨b, off + at_, none⟩) n (bs ((l.drop at_).take n)) := by
  refine ⟨by simp [bs]; omega, fun h0 => ?_⟩
  obtain ⟨b', off', he, hb, hcl⟩ := h.form (by omega)
  cases he
  rw [if_neg (by omega)]
  refine ⟨_, rfl, hb, fun j u hj => ?_⟩
  have hj2 : j < n := by
    have hl := (List.getElem?_eq_some_iff.1 hj).1
    simp [bs] at hl
    omega
  have e : (bs l)[at_ + j]? = some u := by
    rw [← hj]
    simp [bs, List.getElem?_take, hj2]
  have := hcl (at_ + j) u e
  rw [Addr.add_lit]
  rwa [← Nat.add_assoc] at this

theorem below_dN {B : Nat} {a w : World} (h : Below B a w) (n : Nat) : Below B a (w.drewN n) := ⟨h.os, h.tape, h.output, h.size, h.block⟩
theorem reads_head {w : World} {B : Nat} {A : Option Addr} {l : List UInt8} (h : Reads w B 1 A l.length (bs l)) (h0 : 0 < l.length) :
    ∃ b off y, A = some ⟨b, off, none⟩ ∧ b < B ∧ w.cell? ⟨b, off, none⟩ = some (.int .u8 ((y : Nat) : Int)) ∧ (l.headD 0).toNat = y ∧ y < 256 := by
  obtain ⟨b, off, rfl, hb, hc⟩ := reads_byte h (k := 0) h0
  refine ⟨b, off, (l.headD 0).toNat, rfl, hb, ?_, rfl, (l.headD 0).toNat_lt⟩
  cases l with
  | nil => simp at h0
  | cons c r => exact hc
end Go.Proofs.YtkbbkamnmdeagaaDoor
