/-
  Plain law: what is written is read, cut off it is not whole, what is read is written. Nothing of the program.
-/
import Derived.Test.YtkbbkamnmdeagaaVar
namespace Go.Proofs.Ytkbbkamnmdeagaa

theorem toNat_ofNat_lt {x : Nat} (h : x < 256) : (UInt8.ofNat x).toNat = x := by
  simp only [UInt8.toNat_ofNat']
  omega

theorem cont_pos (m : Nat) : 1 ≤ (cont m).length := by
  by_cases h : m < 128
  · rw [cont_last h]; simp
  · rw [cont_more h]; simp

theorem pow128_succ (k : Nat) : 128 ^ (k + 1) = 128 ^ k * 128 := Nat.pow_succ ..
theorem split128 (m k : Nat) : m / 128 * 128 ^ (k + 1) + m % 128 * 128 ^ k = m * 128 ^ k := by
  rw [pow128_succ, Nat.mul_comm (128 ^ k) 128, ← Nat.mul_assoc, ← Nat.add_mul]
  congr 1
  omega
/-- What goes on is read. -/
theorem getFrom_cont (b : List UInt8) : ∀ (m k x : Nat), x + m * 128 ^ k ≤ 2147483647 → (k = 0 ∨ 0 < m) → k ≤ 4 →
    getFrom k x (cont m ++ b) = (x + m * 128 ^ k, k + 1 + (cont m).length, 0) := by
  intro m
  induction m using Nat.strongRecOn with
  | ind m ih =>
    intro k x hM h0 h4
    by_cases h : m < 128
    · rw [cont_last h]
      have e := toNat_ofNat_lt (show m < 256 by omega)
      have e2 : m % 128 = m := Nat.mod_eq_of_lt h
      show getFrom k x (UInt8.ofNat m :: b) = _
      rw [getFrom_done (by rw [e, e2]; omega) (by rw [e]; omega) (by rw [e]; exact h), e, e2]
      rfl
    · rw [cont_more h]
      have e := toNat_ofNat_lt (show m % 128 + 128 < 256 by omega)
      have e2 : (m % 128 + 128) % 128 = m % 128 := by omega
      have hs := split128 m k
      have hk : k ≠ 4 := by
        rintro rfl
        have h2 : 128 * 128 ^ 4 ≤ m * 128 ^ 4 := Nat.mul_le_mul_right _ (by omega)
        omega
      show getFrom k x (UInt8.ofNat (m % 128 + 128) :: (cont (m / 128) ++ b)) = _
      rw [getFrom_next (by rw [e, e2]; omega) (by rw [e]; omega) (by rw [e]; omega), e, e2]
      rw [ih (m / 128) (by omega) (k + 1) _ (by omega) (.inr (by omega)) (by omega)]
      have e3 : x + m % 128 * 128 ^ k + m / 128 * 128 ^ (k + 1) = x + m * 128 ^ k := by omega
      have e4 : k + 1 + 1 + (cont (m / 128)).length = k + 1 + (UInt8.ofNat (m % 128 + 128) :: cont (m / 128)).length := by
        rw [List.length_cons]
        omega
      rw [e3, e4]
/-- Cut off it is not whole. -/
theorem getFrom_cut : ∀ (m k x j : Nat), x + m * 128 ^ k ≤ 2147483647 → k ≤ 4 → j < (cont m).length → getFrom k x ((cont m).take j) = (0, 0, 8) := by
  intro m
  induction m using Nat.strongRecOn with
  | ind m ih =>
    intro k x j hM h4 hj
    by_cases h : m < 128
    · rw [cont_last h] at hj ⊢
      have : j = 0 := by simpa using hj
      subst this
      rfl
    · rw [cont_more h] at hj ⊢
      cases j with
      | zero => rfl
      | succ j =>
        have e := toNat_ofNat_lt (show m % 128 + 128 < 256 by omega)
        have e2 : (m % 128 + 128) % 128 = m % 128 := by omega
        have hs := split128 m k
        have hk : k ≠ 4 := by
          rintro rfl
          have h2 : 128 * 128 ^ 4 ≤ m * 128 ^ 4 := Nat.mul_le_mul_right _ (by omega)
          omega
        rw [List.take_succ_cons, getFrom_next (by rw [e, e2]; omega) (by rw [e]; omega) (by rw [e]; omega), e, e2]
        exact ih (m / 128) (by omega) (k + 1) _ j (by omega) (by omega) (by simpa using hj)
/-- What is read is as it would be written. -/
theorem getFrom_inv : ∀ (r : List UInt8) (k x N U : Nat), k ≤ 4 → getFrom k x r = (N, U, 0) →
    ∃ q, N = x + q * 128 ^ k ∧ N ≤ 2147483647 ∧ k + 1 < U ∧ U ≤ k + 1 + r.length ∧ cont q = r.take (U - (k + 1)) ∧ (0 < k → 0 < q) := by
  intro r
  induction r with
  | nil => intro k x N U _ h; simp [getFrom] at h
  | cons c r ih =>
    intro k x N U hk h
    have hc := c.toNat_lt
    by_cases h1 : 2147483647 < x + c.toNat % 128 * 128 ^ k ∨ (k = 4 ∧ 128 ≤ c.toNat)
    · rw [getFrom_over h1] at h; simp at h
    by_cases h2 : 0 < k ∧ c.toNat = 0
    · rw [getFrom_zero h1 h2] at h; simp at h
    by_cases h3 : c.toNat < 128
    · rw [getFrom_done h1 h2 h3] at h
      simp only [Prod.mk.injEq, and_true] at h
      obtain ⟨rfl, rfl⟩ := h
      have e : c.toNat % 128 = c.toNat := Nat.mod_eq_of_lt h3
      refine ⟨c.toNat, by rw [e], by omega, by omega, by simp only [List.length_cons]; omega, ?_, by omega⟩
      rw [cont_last h3, show k + 2 - (k + 1) = 1 by omega]
      simp
    · rw [getFrom_next h1 h2 h3] at h
      obtain ⟨q, hN, hM, hU, hU2, hq, hp⟩ := ih (k + 1) _ N U (by omega) h
      have hq0 := hp (by omega)
      have hs := split128 (c.toNat % 128 + 128 * q) k
      have e1 : (c.toNat % 128 + 128 * q) / 128 = q := by omega
      have e2 : (c.toNat % 128 + 128 * q) % 128 = c.toNat % 128 := by omega
      rw [e1, e2] at hs
      refine ⟨c.toNat % 128 + 128 * q, by omega, hM, by omega, by simp only [List.length_cons]; omega, ?_, by omega⟩
      rw [cont_more (by omega), e1, e2, hq, show U - (k + 1) = (U - (k + 1 + 1)) + 1 by omega, List.take_succ_cons]
      congr 1
      apply UInt8.toNat_inj.1
      rw [toNat_ofNat_lt (by omega)]
      omega

theorem putN_len (n t f : Nat) : 1 ≤ (putN n t f).length := by
  unfold putN
  split <;> simp

/-- A number that may be, in the low bits, whatever stands behind it. -/
theorem getV_put (n t : Nat) (b : List UInt8) (ht : 1 ≤ t) (ht8 : t ≤ 8) (hn : n ≤ 2147483647) : getV (putN n t 0 ++ b) (t : Int) = (n, (putN n t 0).length, 0) := by
  have hp := pow2_bounds ht ht8
  have hno : ¬ ((t : Int) < 1 ∨ 8 < (t : Int)) := by omega
  by_cases h : n < 2 ^ t - 1
  · have e : putN n t 0 = [UInt8.ofNat n] := by rw [putN, if_pos h, Nat.zero_add]
    rw [e]
    have e1 := toNat_ofNat_lt (show n < 256 by omega)
    have e2 : n % 2 ^ t = n := Nat.mod_eq_of_lt (by omega)
    simp [getV, hno, e1, e2, h]
  · have e : putN n t 0 = UInt8.ofNat (2 ^ t - 1) :: cont (n - (2 ^ t - 1)) := by rw [putN, if_neg h, Nat.zero_add]
    rw [e]
    have e1 := toNat_ofNat_lt (show 2 ^ t - 1 < 256 by omega)
    have e2 : (2 ^ t - 1) % 2 ^ t = 2 ^ t - 1 := Nat.mod_eq_of_lt (by omega)
    have e3 : getV (UInt8.ofNat (2 ^ t - 1) :: cont (n - (2 ^ t - 1)) ++ b) (t : Int) = getFrom 0 (2 ^ t - 1) (cont (n - (2 ^ t - 1)) ++ b) := by
      simp only [getV, if_neg hno, List.cons_append, Int.toNat_natCast, e1, e2]
      rw [if_neg (by omega)]
    rw [e3, getFrom_cont b _ 0 _ (by omega) (.inl rfl) (by omega)]
    simp only [List.length_cons, Prod.mk.injEq, and_true]
    omega
theorem getV_cut (n t i : Nat) (ht : 1 ≤ t) (ht8 : t ≤ 8) (hn : n ≤ 2147483647) (hi : i < (putN n t 0).length) : getV ((putN n t 0).take i) (t : Int) = (0, 0, 8) := by
  have hp := pow2_bounds ht ht8
  have hno : ¬ ((t : Int) < 1 ∨ 8 < (t : Int)) := by omega
  cases i with
  | zero => simp [getV, hno]
  | succ i =>
    by_cases h : n < 2 ^ t - 1
    · have e : putN n t 0 = [UInt8.ofNat n] := by rw [putN, if_pos h, Nat.zero_add]
      rw [e] at hi
      simp at hi
    · have e : putN n t 0 = UInt8.ofNat (2 ^ t - 1) :: cont (n - (2 ^ t - 1)) := by rw [putN, if_neg h, Nat.zero_add]
      rw [e] at hi ⊢
      have e1 := toNat_ofNat_lt (show 2 ^ t - 1 < 256 by omega)
      have e2 : (2 ^ t - 1) % 2 ^ t = 2 ^ t - 1 := Nat.mod_eq_of_lt (by omega)
      rw [List.take_succ_cons]
      have e3 : getV (UInt8.ofNat (2 ^ t - 1) :: (cont (n - (2 ^ t - 1))).take i) (t : Int) = getFrom 0 (2 ^ t - 1) ((cont (n - (2 ^ t - 1))).take i) := by
        simp only [getV, if_neg hno, Int.toNat_natCast, e1, e2]
        rw [if_neg (by omega)]
      rw [e3]
      exact getFrom_cut _ 0 _ i (by omega) (by omega) (by simpa using hi)
/-- What is read of any bytes is written as these, with their high bits. -/
theorem put_getV (c : UInt8) (r : List UInt8) (s : Int) (N U : Nat) (h : getV (c :: r) s = (N, U, 0)) :
    1 ≤ s ∧ s ≤ 8 ∧ N ≤ 2147483647 ∧ 1 ≤ U ∧ U ≤ r.length + 1 ∧ putN N s.toNat (c.toNat / 2 ^ s.toNat * 2 ^ s.toNat) = (c :: r).take U := by
  by_cases hno : s < 1 ∨ 8 < s
  · simp [getV, hno] at h
  have hp := pow2_bounds (t := s.toNat) (by omega) (by omega)
  have hc := c.toNat_lt
  have hd := Nat.div_add_mod c.toNat (2 ^ s.toNat)
  rw [Nat.mul_comm] at hd
  have hm := Nat.mod_lt c.toNat (show 0 < 2 ^ s.toNat by omega)
  simp only [getV, if_neg hno] at h
  by_cases hlt : c.toNat % 2 ^ s.toNat < 2 ^ s.toNat - 1
  · rw [if_pos hlt] at h
    simp only [Prod.mk.injEq, and_true] at h
    obtain ⟨rfl, rfl⟩ := h
    refine ⟨by omega, by omega, by omega, by omega, by omega, ?_⟩
    rw [putN, if_pos hlt, hd]
    simp
  · rw [if_neg hlt] at h
    obtain ⟨q, hN, hM, hU, hU2, hq, _⟩ := getFrom_inv r 0 _ N U (by omega) h
    refine ⟨by omega, by omega, hM, by omega, by omega, ?_⟩
    have e1 : N - (2 ^ s.toNat - 1) = q := by simp at hN; omega
    rw [putN, if_neg (by simp at hN; omega), e1, hq, show U = (U - (0 + 1)) + 1 by omega, List.take_succ_cons]
    congr 1
    rw [show c.toNat / 2 ^ s.toNat * 2 ^ s.toNat + (2 ^ s.toNat - 1) = c.toNat by omega]
    simp
theorem put_high (c : UInt8) (s : Nat) : (c.toNat / 2 ^ s * 2 ^ s) % 2 ^ s = 0 ∧ c.toNat / 2 ^ s * 2 ^ s ≤ 255 := by
  refine ⟨Nat.mul_mod_left _ _, ?_⟩
  have := Nat.div_mul_le_self c.toNat (2 ^ s)
  have := c.toNat_lt
  omega
theorem cont_len : ∀ (j m : Nat), m < 128 ^ (j + 1) → (cont m).length ≤ j + 1 := by
  intro j
  induction j with
  | zero => intro m h; rw [cont_last (by omega)]; simp
  | succ j ih =>
    intro m h
    by_cases h1 : m < 128
    · rw [cont_last h1]; simp
    · rw [cont_more h1, List.length_cons]
      have := ih (m / 128) (by
        rw [pow128_succ] at h
        exact Nat.div_lt_of_lt_mul (by rw [Nat.mul_comm]; exact h))
      omega
theorem putN_len6 (n t : Nat) (h : n ≤ 2147483647) (f : Nat := 0) : (putN n t f).length ≤ 6 := by
  unfold putN
  split
  · simp
  · rw [List.length_cons]
    have := cont_len 4 (n - (2 ^ t - 1)) (by omega)
    omega
end Go.Proofs.Ytkbbkamnmdeagaa
