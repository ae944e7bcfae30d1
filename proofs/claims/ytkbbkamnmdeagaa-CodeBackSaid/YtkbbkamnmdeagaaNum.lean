/-
  Plain law: numbers as bytes, the high bytes first, and back. Nothing of the program.
-/
import Derived.Test.YtkbbkamnmdeagaaMem
namespace Go.Proofs.Ytkbbkamnmdeagaa

/-- The most that so many bytes hold. -/
def most (s : Nat) : Nat := if s = 4 then 2147483647 else 256 ^ s - 1
/-- The number of bytes, the high ones first. -/
def beNat (l : List UInt8) : Nat := l.foldl (fun n c => n * 256 + c.toNat) 0
/-- A number as so many bytes. -/
def beBytes : Nat → Nat → List UInt8
  | 0, _ => []
  | s + 1, n => UInt8.ofNat (n / 256 ^ s) :: beBytes s n

theorem beBytes_length (s n : Nat) : (beBytes s n).length = s := by
  induction s with
  | zero => rfl
  | succ s ih => simp [beBytes, ih]
theorem beNat_append (a : List UInt8) (c : UInt8) : beNat (a ++ [c]) = beNat a * 256 + c.toNat := by simp [beNat]
theorem beNat_nil : beNat [] = 0 := rfl
theorem foldl_be (l : List UInt8) : ∀ n : Nat, l.foldl (fun n c => n * 256 + c.toNat) n = n * 256 ^ l.length + beNat l := by
  induction l with
  | nil => intro n; simp [beNat]
  | cons c r ih =>
    intro n
    simp only [List.foldl_cons, List.length_cons, beNat, Nat.zero_mul, Nat.zero_add]
    rw [ih, ih c.toNat, Nat.pow_succ]
    rw [Nat.add_mul, Nat.mul_assoc, Nat.mul_comm 256, Nat.add_assoc]
theorem beNat_cons (c : UInt8) (l : List UInt8) : beNat (c :: l) = c.toNat * 256 ^ l.length + beNat l := by
  have h := foldl_be l c.toNat
  simpa [beNat] using h
theorem beNat_lt (l : List UInt8) : beNat l < 256 ^ l.length := by
  induction l with
  | nil => simp [beNat]
  | cons c r ih =>
    rw [beNat_cons, List.length_cons, Nat.pow_succ]
    have := c.toNat_lt
    have h1 : c.toNat * 256 ^ r.length ≤ 255 * 256 ^ r.length := Nat.mul_le_mul_right _ (by omega)
    omega
theorem beNat_take_succ (l : List UInt8) (k : Nat) (h : k < l.length) : beNat (l.take (k + 1)) = beNat (l.take k) * 256 + l[k].toNat := by
  rw [List.take_succ_eq_append_getElem h, beNat_append]
theorem beNat_le_pow (l : List UInt8) (k : Nat) (h : l.length ≤ k) : beNat l < 256 ^ k :=
  Nat.lt_of_lt_of_le (beNat_lt l) (Nat.pow_le_pow_right (by omega) h)
theorem beNat_take_lt (l : List UInt8) (k : Nat) : beNat (l.take k) < 256 ^ k := beNat_le_pow _ _ (List.length_take_le _ _)
theorem most_lt (s : Nat) (h : s ≤ 4) : most s < 256 ^ s ∧ most s ≤ 2147483647 := by
  unfold most
  rcases (by omega : s = 0 ∨ s = 1 ∨ s = 2 ∨ s = 3 ∨ s = 4) with rfl | rfl | rfl | rfl | rfl <;> simp
theorem beNat_bytes (s n : Nat) (h : n < 256 ^ s) : beNat (beBytes s n) = n := by
  induction s generalizing n with
  | zero => simp at h; simp [beBytes, beNat, h]
  | succ s ih =>
    have aux : ∀ m, beNat (beBytes s m) = m % 256 ^ s := by
      intro m
      have e : ∀ t m, t ≤ s → beBytes t m = beBytes t (m % 256 ^ s) := by
        intro t
        induction t with
        | zero => intro m _; rfl
        | succ t iht =>
          intro m ht
          have h1 : (256 : Nat) ^ s = 256 ^ t * (256 * 256 ^ (s - t - 1)) := by
            rw [← Nat.pow_succ', ← Nat.pow_add]
            congr 1
            omega
          have h2 : m % 256 ^ s / 256 ^ t = m / 256 ^ t % (256 * 256 ^ (s - t - 1)) := by
            rw [h1, Nat.mod_mul_right_div_self]
          have h3 : UInt8.ofNat (m / 256 ^ t) = UInt8.ofNat (m % 256 ^ s / 256 ^ t) := by
            rw [h2]
            apply UInt8.toNat_inj.1
            simp only [UInt8.toNat_ofNat']
            rw [Nat.mod_mul_right_mod]
          simp only [beBytes]
          rw [h3, ← iht m (by omega)]
      rw [e s m (Nat.le_refl _)]
      exact ih _ (Nat.mod_lt _ (Nat.pow_pos (by omega)))
    simp only [beBytes]
    rw [beNat_cons, beBytes_length, aux]
    have h4 : n / 256 ^ s < 256 := by
      rw [Nat.pow_succ, Nat.mul_comm] at h
      exact Nat.div_lt_of_lt_mul (by rw [Nat.mul_comm]; exact h)
    simp only [UInt8.toNat_ofNat']
    rw [Nat.mod_eq_of_lt (by simpa using h4), Nat.mul_comm]
    exact Nat.div_add_mod n (256 ^ s)
theorem beBytes_nat (l : List UInt8) : beBytes l.length (beNat l) = l := by
  have key : ∀ (l : List UInt8) (m : Nat), beBytes l.length (m * 256 ^ l.length + beNat l) = l := by
    intro l
    induction l with
    | nil => intro m; rfl
    | cons c r ih =>
      intro m
      simp only [List.length_cons, beBytes]
      rw [beNat_cons]
      have hlt := beNat_lt r
      have hp : 0 < 256 ^ r.length := Nat.pow_pos (by omega)
      have e1 : m * 256 ^ (r.length + 1) + (c.toNat * 256 ^ r.length + beNat r) = (m * 256 + c.toNat) * 256 ^ r.length + beNat r := by
        rw [Nat.pow_succ', Nat.add_mul, Nat.mul_assoc]; omega
      rw [e1, ih]
      congr 1
      rw [Nat.mul_comm, Nat.mul_add_div hp, Nat.div_eq_of_lt hlt]
      apply UInt8.toNat_inj.1
      simp only [UInt8.toNat_ofNat']
      have := c.toNat_lt
      omega
  have := key l 0
  simpa using this
theorem beBytes_at (s n k : Nat) (h : k < s) : (beBytes s n)[k]? = some (UInt8.ofNat (n / 256 ^ (s - 1 - k))) := by
  induction s generalizing k with
  | zero => omega
  | succ s ih =>
    cases k with
    | zero => simp [beBytes]
    | succ k =>
      simp only [beBytes, List.getElem?_cons_succ]
      rw [ih k (by omega)]
      congr 4
      omega
theorem beBytes_take (s n k : Nat) (h : k < s) : (beBytes s n).take (k + 1) = (beBytes s n).take k ++ [UInt8.ofNat (n / 256 ^ (s - 1 - k))] := by
  rw [List.take_add_one, beBytes_at s n k h]
  rfl
theorem ipow_le {a b : Nat} (h : a ≤ b) : (2 : Int) ^ a ≤ 2 ^ b := by
  have h1 : (2 : Nat) ^ a ≤ 2 ^ b := Nat.pow_le_pow_right (by omega) h
  exact_mod_cast h1
theorem ipow_pos (a : Nat) : (0 : Int) < 2 ^ a := Int.pow_pos (by omega)
end Go.Proofs.Ytkbbkamnmdeagaa
