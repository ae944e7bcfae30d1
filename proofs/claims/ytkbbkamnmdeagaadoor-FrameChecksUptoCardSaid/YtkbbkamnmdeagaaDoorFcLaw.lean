/-
  Plain law for what is wrong with a frame. Nothing of the program but its numbers' bits.
-/
import Derived.Test.YtkbbkamnmdeagaaDoorFrm
import Derived.Test.YtkbbkamnmdeagaaDoorBitFacts
namespace Go.Proofs.YtkbbkamnmdeagaaDoor

/-- The last bit of a number. -/
def oddF (F : Int) : Bool := decide ((BitVec.ofInt 64 F).toNat % 2 = 1)
theorem and_one (F : Int) : bits .and .i64 F 1 = if oddF F then 1 else 0 := by
  show IntKind.i64.wrap ((BitVec.ofInt 64 F &&& BitVec.ofInt 64 1).toNat : Int) = _
  rw [BitVec.toNat_and, show (BitVec.ofInt 64 1).toNat = 1 by rfl, Nat.and_one_is_mod, IntKind.wrap_i64]
  unfold oddF
  have h := Nat.mod_lt (BitVec.ofInt 64 F).toNat (show 0 < 2 by omega)
  generalize (BitVec.ofInt 64 F).toNat % 2 = z at *
  by_cases hz : z = 1
  · subst hz
    simp
  · have : z = 0 := by omega
    subst this
    simp
/-- A number of higher bits and one of lower bits, put together. -/
theorem or_join (a b t : Nat) (hb : b < 2 ^ t) (hs : a * 2 ^ t + b < 4611686018427387904) : bits .or .i64 ((a * 2 ^ t : Nat) : Int) ((b : Nat) : Int) = ((a * 2 ^ t + b : Nat) : Int) := by
  show IntKind.i64.wrap ((BitVec.ofInt 64 ((a * 2 ^ t : Nat) : Int) ||| BitVec.ofInt 64 ((b : Nat) : Int)).toNat : Int) = _
  rw [BitVec.toNat_or, ofInt64 _ (by omega), ofInt64 _ (by omega)]
  have h : a * 2 ^ t + b = a * 2 ^ t ||| b := by
    rw [Nat.mul_comm]
    exact Nat.two_pow_add_eq_or_of_lt hb a
  rw [← h, IntKind.wrap_i64]
  omega

/-- A setting's piece. -/
def pc6 (b : List UInt8) (j : Nat) : List UInt8 := (b.drop (6 * j)).take 6
def setId (p : List UInt8) : Nat := beNat (p.take 2)
def setX (p : List UInt8) : Nat := beNat ((p.drop 2).take 4)
def setBad (p : List UInt8) : Nat := if setId p = 4 ∧ 2147483647 < setX p then 3 else if setId p = 5 ∧ setX p < 1024 then 1 else 0
/-- What is wrong with settings: the first that is wrong tells. -/
def setsChk (b : List UInt8) : Nat := (((List.range ((b.length + 5) / 6)).map fun j => setBad (pc6 b j)).find? (fun x => decide (x ≠ 0))).getD 0
theorem find_first (f : Nat → Nat) : ∀ (n k : Nat), k < n → (∀ j, j < k → f j = 0) → f k ≠ 0 → (((List.range n).map f).find? (fun x => decide (x ≠ 0))).getD 0 = f k := by
  intro n k hk h1 h2
  rw [List.find?_map]
  have h3 : (List.range n).find? ((fun x => decide (x ≠ 0)) ∘ f) = some k := by
    rw [List.find?_range_eq_some]
    refine ⟨by simpa using h2, by simpa using hk, fun j hj => ?_⟩
    have := h1 j hj
    simp [this]
  rw [h3]
  rfl
theorem setsChk_first {b : List UInt8} {k : Nat} (hk : k < (b.length + 5) / 6) (h1 : ∀ j, j < k → setBad (pc6 b j) = 0) (h2 : setBad (pc6 b k) ≠ 0) : setsChk b = setBad (pc6 b k) :=
  find_first (fun j => setBad (pc6 b j)) _ k hk h1 h2
theorem setsChk_none {b : List UInt8} (h : ∀ j, j < (b.length + 5) / 6 → setBad (pc6 b j) = 0) : setsChk b = 0 := by
  unfold setsChk
  have h3 : ((List.range ((b.length + 5) / 6)).map fun j => setBad (pc6 b j)).find? (fun x => decide (x ≠ 0)) = none := by
    rw [List.find?_eq_none]
    intro x hx
    obtain ⟨j, hj, rfl⟩ := List.mem_map.1 hx
    have := h j (List.mem_range.1 hj)
    simp [this]
  rw [h3]
  rfl
/-- What is wrong with a frame. -/
def chkF (f : Frm) : Nat :=
  if (0 ≤ f.K ∧ f.K ≤ 3) ∧ f.S = 0 then 1
  else if (f.K = 4 ∨ f.K = 5 ∨ f.K = 6) ∧ f.S ≠ 0 then 1
  else if (f.K = 3 ∧ f.body.length ≠ 4) ∨ (f.K = 5 ∧ f.body.length ≠ 8) ∨ (f.K = 6 ∧ f.body.length < 8) ∨ (f.K = 7 ∧ f.body.length ≠ 4) then 6
  else if f.K = 4 ∧ (f.body.length % 6 ≠ 0 ∨ (0 < f.body.length ∧ oddF f.F = true)) then 6
  else if f.K = 7 then (if beNat f.body = 0 ∨ 2147483647 < beNat f.body then 1 else 0)
  else if f.K = 4 then setsChk f.body else 0
end Go.Proofs.YtkbbkamnmdeagaaDoor
