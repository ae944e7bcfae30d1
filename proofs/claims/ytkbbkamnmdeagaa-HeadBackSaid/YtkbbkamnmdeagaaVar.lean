/-
  Plain law: a number behind the high bits of a byte, in as many bytes as it needs, and back. Nothing of the program.
-/
import Derived.Test.YtkbbkamnmdeagaaNum
namespace Go.Proofs.Ytkbbkamnmdeagaa

/-- What goes on in further bytes: seven bits each, the low ones first. -/
def cont (m : Nat) : List UInt8 := if m < 128 then [UInt8.ofNat m] else UInt8.ofNat (m % 128 + 128) :: cont (m / 128)
termination_by m
decreasing_by omega
theorem cont_last {m : Nat} (h : m < 128) : cont m = [UInt8.ofNat m] := by rw [cont, if_pos h]
theorem cont_more {m : Nat} (h : ¬ m < 128) : cont m = UInt8.ofNat (m % 128 + 128) :: cont (m / 128) := by rw [cont, if_neg h]

def putOk (n bits first : Int) : Prop := 1 ≤ bits ∧ bits ≤ 8 ∧ 0 ≤ n ∧ n ≤ 2147483647 ∧ 0 ≤ first ∧ first ≤ 255 ∧ first % 2 ^ bits.toNat = 0
instance (n bits first : Int) : Decidable (putOk n bits first) := by unfold putOk; infer_instance
/-- The bytes of a number that may be. -/
def putN (n t first : Nat) : List UInt8 := if n < 2 ^ t - 1 then [UInt8.ofNat (first + n)] else UInt8.ofNat (first + (2 ^ t - 1)) :: cont (n - (2 ^ t - 1))
def putE (n bits first : Int) : Nat := if putOk n bits first then 0 else 1
def putL (n bits first : Int) : List UInt8 := if putOk n bits first then putN n.toNat bits.toNat first.toNat else []

/-- What is read behind a first byte that is full: the number, how many bytes, the fault. -/
def getFrom : Nat → Nat → List UInt8 → Nat × Nat × Nat
  | _, _, [] => (0, 0, 8)
  | i, n, c :: r =>
    if 2147483647 < n + c.toNat % 128 * 128 ^ i ∨ (i = 4 ∧ 128 ≤ c.toNat) then (0, 0, 10)
    else if 0 < i ∧ c.toNat = 0 then (0, 0, 2)
    else if c.toNat < 128 then (n + c.toNat % 128 * 128 ^ i, i + 2, 0)
    else getFrom (i + 1) (n + c.toNat % 128 * 128 ^ i) r
def getV (l : List UInt8) (bits : Int) : Nat × Nat × Nat :=
  if bits < 1 ∨ 8 < bits then (0, 0, 1) else match l with
    | [] => (0, 0, 8)
    | c :: r => if c.toNat % 2 ^ bits.toNat < 2 ^ bits.toNat - 1 then (c.toNat % 2 ^ bits.toNat, 1, 0) else getFrom 0 (c.toNat % 2 ^ bits.toNat) r

theorem getFrom_over {i n : Nat} {c : UInt8} {r : List UInt8} (h : 2147483647 < n + c.toNat % 128 * 128 ^ i ∨ (i = 4 ∧ 128 ≤ c.toNat)) : getFrom i n (c :: r) = (0, 0, 10) := by
  rw [getFrom, if_pos h]
theorem getFrom_zero {i n : Nat} {c : UInt8} {r : List UInt8} (h : ¬ (2147483647 < n + c.toNat % 128 * 128 ^ i ∨ (i = 4 ∧ 128 ≤ c.toNat))) (h2 : 0 < i ∧ c.toNat = 0) : getFrom i n (c :: r) = (0, 0, 2) := by
  rw [getFrom, if_neg h, if_pos h2]
theorem getFrom_done {i n : Nat} {c : UInt8} {r : List UInt8} (h : ¬ (2147483647 < n + c.toNat % 128 * 128 ^ i ∨ (i = 4 ∧ 128 ≤ c.toNat))) (h2 : ¬ (0 < i ∧ c.toNat = 0)) (h3 : c.toNat < 128) :
    getFrom i n (c :: r) = (n + c.toNat % 128 * 128 ^ i, i + 2, 0) := by
  rw [getFrom, if_neg h, if_neg h2, if_pos h3]
theorem getFrom_next {i n : Nat} {c : UInt8} {r : List UInt8} (h : ¬ (2147483647 < n + c.toNat % 128 * 128 ^ i ∨ (i = 4 ∧ 128 ≤ c.toNat))) (h2 : ¬ (0 < i ∧ c.toNat = 0)) (h3 : ¬ c.toNat < 128) :
    getFrom i n (c :: r) = getFrom (i + 1) (n + c.toNat % 128 * 128 ^ i) r := by
  rw [getFrom, if_neg h, if_neg h2, if_neg h3]

theorem pow2_bounds {t : Nat} (h1 : 1 ≤ t) (h8 : t ≤ 8) : 2 ≤ 2 ^ t ∧ 2 ^ t ≤ 256 := by
  rcases (by omega : t = 1 ∨ t = 2 ∨ t = 3 ∨ t = 4 ∨ t = 5 ∨ t = 6 ∨ t = 7 ∨ t = 8) with rfl | rfl | rfl | rfl | rfl | rfl | rfl | rfl <;> simp
theorem pow128 (k : Nat) : 2 ^ (7 * k) = 128 ^ k := by rw [Nat.pow_mul]
theorem pow128_le {k : Nat} (h : k ≤ 4) : 1 ≤ 128 ^ k ∧ 128 ^ k ≤ 268435456 := by
  rcases (by omega : k = 0 ∨ k = 1 ∨ k = 2 ∨ k = 3 ∨ k = 4) with rfl | rfl | rfl | rfl | rfl <;> simp
end Go.Proofs.Ytkbbkamnmdeagaa
