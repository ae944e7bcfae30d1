/-
  Plain law: what is written is read, cut off it is not whole, what is read is written. Nothing of the program.
  Plain law: texts as bits. Nothing of the program.
  Plain law: what bits are read as; every text comes back; what is read is written so. Nothing of the program.
-/
import Derived.Test.YtkbbkamnmdeagaaDoorMHeadPlays01
import Derived.Lib.IndexLaws
namespace Go.Proofs.YtkbbkamnmdeagaaDoor

theorem toNat_ofNat_lt {x : Nat} (h : x < 256) : (UInt8.ofNat x).toNat = x := by
  simp only [UInt8.toNat_ofNat']
  omega

theorem cont_pos (m : Nat) : 1 ≤ (cont m).length := by
  by_cases h : m < 128
  · rw [cont_last h]; simp
  · rw [cont_more h]; simp

theorem pow128_succ (k : Nat) : 128 ^ (k + 1) = 128 ^ k * 128 := Nat.pow_succ ..
theorem split128 (m k : Nat) : m / 128 * 128 ^ (k + 1) + m % 128 * 128 ^ k = m * 128 ^ k := by
  rw [pow128_succ, Nat.mul_comm (128 ^ k) 128, ← Nat.mul_assoc, ← Nat.add_mul]
  congr 1
  omega
/-- What goes on is read. -/
theorem getFrom_cont (b : List UInt8) : ∀ (m k x : Nat), x + m * 128 ^ k ≤ 2147483647 → (k = 0 ∨ 0 < m) → k ≤ 4 →
    getFrom k x (cont m ++ b) = (x + m * 128 ^ k, k + 1 + (cont m).length, 0) := by
  intro m
  induction m using Nat.strongRecOn with
  | ind m ih =>
    intro k x hM h0 h4
    by_cases h : m < 128
    · rw [cont_last h]
      have e := toNat_ofNat_lt (show m < 256 by omega)
      have e2 : m % 128 = m := Nat.mod_eq_of_lt h
      show getFrom k x (UInt8.ofNat m :: b) = _
      rw [getFrom_done (by rw [e, e2]; omega) (by rw [e]; omega) (by rw [e]; exact h), e, e2]
      rfl
    · rw [cont_more h]
      have e := toNat_ofNat_lt (show m % 128 + 128 < 256 by omega)
      have e2 : (m % 128 + 128) % 128 = m % 128 := by omega
      have hs := split128 m k
      have hk : k ≠ 4 := by
        rintro rfl
        have h2 : 128 * 128 ^ 4 ≤ m * 128 ^ 4 := Nat.mul_le_mul_right _ (by omega)
        omega
      show getFrom k x (UInt8.ofNat (m % 128 + 128) :: (cont (m / 128) ++ b)) = _
      rw [getFrom_next (by rw [e, e2]; omega) (by rw [e]; omega) (by rw [e]; omega), e, e2]
      rw [ih (m / 128) (by omega) (k + 1) _ (by omega) (.inr (by omega)) (by omega)]
      have e3 : x + m % 128 * 128 ^ k + m / 128 * 128 ^ (k + 1) = x + m * 128 ^ k := by omega
      have e4 : k + 1 + 1 + (cont (m / 128)).length = k + 1 + (UInt8.ofNat (m % 128 + 128) :: cont (m / 128)).length := by
        rw [List.length_cons]
        omega
      rw [e3, e4]
/-- Cut off it is not whole. -/
theorem getFrom_cut : ∀ (m k x j : Nat), x + m * 128 ^ k ≤ 2147483647 → k ≤ 4 → j < (cont m).length → getFrom k x ((cont m).take j) = (0, 0, 8) := by
  intro m
  induction m using Nat.strongRecOn with
  | ind m ih =>
    intro k x j hM h4 hj
    by_cases h : m < 128
    · rw [cont_last h] at hj ⊢
      have : j = 0 := by simpa using hj
      subst this
      rfl
    · rw [cont_more h] at hj ⊢
      cases j with
      | zero => rfl
      | succ j =>
        have e := toNat_ofNat_lt (show m % 128 + 128 < 256 by omega)
        have e2 : (m % 128 + 128) % 128 = m % 128 := by omega
        have hs := split128 m k
        have hk : k ≠ 4 := by
          rintro rfl
          have h2 : 128 * 128 ^ 4 ≤ m * 128 ^ 4 := Nat.mul_le_mul_right _ (by omega)
          omega
        rw [List.take_succ_cons, getFrom_next (by rw [e, e2]; omega) (by rw [e]; omega) (by rw [e]; omega), e, e2]
        exact ih (m / 128) (by omega) (k + 1) _ j (by omega) (by omega) (by simpa using hj)
/-- What is read is as it would be written. -/
theorem getFrom_inv : ∀ (r : List UInt8) (k x N U : Nat), k ≤ 4 → getFrom k x r = (N, U, 0) →
    ∃ q, N = x + q * 128 ^ k ∧ N ≤ 2147483647 ∧ k + 1 < U ∧ U ≤ k + 1 + r.length ∧ cont q = r.take (U - (k + 1)) ∧ (0 < k → 0 < q) := by
  intro r
  induction r with
  | nil => intro k x N U _ h; simp [getFrom] at h
  | cons c r ih =>
    intro k x N U hk h
    have hc := c.toNat_lt
    by_cases h1 : 2147483647 < x + c.toNat % 128 * 128 ^ k ∨ (k = 4 ∧ 128 ≤ c.toNat)
    · rw [getFrom_over h1] at h; simp at h
    by_cases h2 : 0 < k ∧ c.toNat = 0
    · rw [getFrom_zero h1 h2] at h; simp at h
    by_cases h3 : c.toNat < 128
    · rw [getFrom_done h1 h2 h3] at h
      simp only [Prod.mk.injEq, and_true] at h
      obtain ⟨rfl, rfl⟩ := h
      have e : c.toNat % 128 = c.toNat := Nat.mod_eq_of_lt h3
      refine ⟨c.toNat, by rw [e], by omega, by omega, by simp only [List.length_cons]; omega, ?_, by omega⟩
      rw [cont_last h3, show k + 2 - (k + 1) = 1 by omega]
      simp
    · rw [getFrom_next h1 h2 h3] at h
      obtain ⟨q, hN, hM, hU, hU2, hq, hp⟩ := ih (k + 1) _ N U (by omega) h
      have hq0 := hp (by omega)
      have hs := split128 (c.toNat % 128 + 128 * q) k
      have e1 : (c.toNat % 128 + 128 * q) / 128 = q := by omega
      have e2 : (c.toNat % 128 + 128 * q) % 128 = c.toNat % 128 := by omega
      rw [e1, e2] at hs
      refine ⟨c.toNat % 128 + 128 * q, by omega, hM, by omega, by simp only [List.length_cons]; omega, ?_, by omega⟩
      rw [cont_more (by omega), e1, e2, hq, show U - (k + 1) = (U - (k + 1 + 1)) + 1 by omega, List.take_succ_cons]
      congr 1
      apply UInt8.toNat_inj.1
      rw [toNat_ofNat_lt (by omega)]
      omega

theorem putN_len (n t f : Nat) : 1 ≤ (putN n t f).length := by
  unfold putN
  split <;> simp

/-- A number that may be, in the low bits, whatever stands behind it. -/
theorem getV_put (n t : Nat) (b : List UInt8) (ht : 1 ≤ t) (ht8 : t ≤ 8) (hn : n ≤ 2147483647) : getV (putN n t 0 ++ b) (t : Int) = (n, (putN n t 0).length, 0) := by
  have hp := pow2_bounds ht ht8
  have hno : ¬ ((t : Int) < 1 ∨ 8 < (t : Int)) := by omega
  by_cases h : n < 2 ^ t - 1
  · have e : putN n t 0 = [UInt8.ofNat n] := by rw [putN, if_pos h, Nat.zero_add]
    rw [e]
    have e1 := toNat_ofNat_lt (show n < 256 by omega)
    have e2 : n % 2 ^ t = n := Nat.mod_eq_of_lt (by omega)
    simp [getV, hno, e1, e2, h]
  · have e : putN n t 0 = UInt8.ofNat (2 ^ t - 1) :: cont (n - (2 ^ t - 1)) := by rw [putN, if_neg h, Nat.zero_add]
    rw [e]
    have e1 := toNat_ofNat_lt (show 2 ^ t - 1 < 256 by omega)
    have e2 : (2 ^ t - 1) % 2 ^ t = 2 ^ t - 1 := Nat.mod_eq_of_lt (by omega)
    have e3 : getV (UInt8.ofNat (2 ^ t - 1) :: cont (n - (2 ^ t - 1)) ++ b) (t : Int) = getFrom 0 (2 ^ t - 1) (cont (n - (2 ^ t - 1)) ++ b) := by
      simp only [getV, if_neg hno, List.cons_append, Int.toNat_natCast, e1, e2]
      rw [if_neg (by omega)]
    rw [e3, getFrom_cont b _ 0 _ (by omega) (.inl rfl) (by omega)]
    simp only [List.length_cons, Prod.mk.injEq, and_true]
    omega
theorem getV_cut (n t i : Nat) (ht : 1 ≤ t) (ht8 : t ≤ 8) (hn : n ≤ 2147483647) (hi : i < (putN n t 0).length) : getV ((putN n t 0).take i) (t : Int) = (0, 0, 8) := by
  have hp := pow2_bounds ht ht8
  have hno : ¬ ((t : Int) < 1 ∨ 8 < (t : Int)) := by omega
  cases i with
  | zero => simp [getV, hno]
  | succ i =>
    by_cases h : n < 2 ^ t - 1
    · have e : putN n t 0 = [UInt8.ofNat n] := by rw [putN, if_pos h, Nat.zero_add]
      rw [e] at hi
      simp at hi
    · have e : putN n t 0 = UInt8.ofNat (2 ^ t - 1) :: cont (n - (2 ^ t - 1)) := by rw [putN, if_neg h, Nat.zero_add]
      rw [e] at hi ⊢
      have e1 := toNat_ofNat_lt (show 2 ^ t - 1 < 256 by omega)
      have e2 : (2 ^ t - 1) % 2 ^ t = 2 ^ t - 1 := Nat.mod_eq_of_lt (by omega)
      rw [List.take_succ_cons]
      have e3 : getV (UInt8.ofNat (2 ^ t - 1) :: (cont (n - (2 ^ t - 1))).take i) (t : Int) = getFrom 0 (2 ^ t - 1) ((cont (n - (2 ^ t - 1))).take i) := by
        simp only [getV, if_neg hno, Int.toNat_natCast, e1, e2]
        rw [if_neg (by omega)]
      rw [e3]
      exact getFrom_cut _ 0 _ i (by omega) (by omega) (by simpa using hi)
/-- What is read of any bytes is written as these, with their high bits. -/
theorem put_getV (c : UInt8) (r : List UInt8) (s : Int) (N U : Nat) (h : getV (c :: r) s = (N, U, 0)) :
    1 ≤ s ∧ s ≤ 8 ∧ N ≤ 2147483647 ∧ 1 ≤ U ∧ U ≤ r.length + 1 ∧ putN N s.toNat (c.toNat / 2 ^ s.toNat * 2 ^ s.toNat) = (c :: r).take U := by
  by_cases hno : s < 1 ∨ 8 < s
  · simp [getV, hno] at h
  have hp := pow2_bounds (t := s.toNat) (by omega) (by omega)
  have hc := c.toNat_lt
  have hd := Nat.div_add_mod c.toNat (2 ^ s.toNat)
  rw [Nat.mul_comm] at hd
  have hm := Nat.mod_lt c.toNat (show 0 < 2 ^ s.toNat by omega)
  simp only [getV, if_neg hno] at h
  by_cases hlt : c.toNat % 2 ^ s.toNat < 2 ^ s.toNat - 1
  · rw [if_pos hlt] at h
    simp only [Prod.mk.injEq, and_true] at h
    obtain ⟨rfl, rfl⟩ := h
    refine ⟨by omega, by omega, by omega, by omega, by omega, ?_⟩
    rw [putN, if_pos hlt, hd]
    simp
  · rw [if_neg hlt] at h
    obtain ⟨q, hN, hM, hU, hU2, hq, _⟩ := getFrom_inv r 0 _ N U (by omega) h
    refine ⟨by omega, by omega, hM, by omega, by omega, ?_⟩
    have e1 : N - (2 ^ s.toNat - 1) = q := by simp at hN; omega
    rw [putN, if_neg (by simp at hN; omega), e1, hq, show U = (U - (0 + 1)) + 1 by omega, List.take_succ_cons]
    congr 1
    rw [show c.toNat / 2 ^ s.toNat * 2 ^ s.toNat + (2 ^ s.toNat - 1) = c.toNat by omega]
    simp
theorem put_high (c : UInt8) (s : Nat) : (c.toNat / 2 ^ s * 2 ^ s) % 2 ^ s = 0 ∧ c.toNat / 2 ^ s * 2 ^ s ≤ 255 := by
  refine ⟨Nat.mul_mod_left _ _, ?_⟩
  have := Nat.div_mul_le_self c.toNat (2 ^ s)
  have := c.toNat_lt
  omega
theorem cont_len : ∀ (j m : Nat), m < 128 ^ (j + 1) → (cont m).length ≤ j + 1 := by
  intro j
  induction j with
  | zero => intro m h; rw [cont_last (by omega)]; simp
  | succ j ih =>
    intro m h
    by_cases h1 : m < 128
    · rw [cont_last h1]; simp
    · rw [cont_more h1, List.length_cons]
      have := ih (m / 128) (by
        rw [pow128_succ] at h
        exact Nat.div_lt_of_lt_mul (by rw [Nat.mul_comm]; exact h))
      omega
theorem putN_len6 (n t : Nat) (h : n ≤ 2147483647) (f : Nat := 0) : (putN n t f).length ≤ 6 := by
  unfold putN
  split
  · simp
  · rw [List.length_cons]
    have := cont_len 4 (n - (2 ^ t - 1)) (by omega)
    omega
end Go.Proofs.YtkbbkamnmdeagaaDoor
namespace Go.Proofs.YtkbbkamnmdeagaaDoor

/-- The bytes that are often met. -/
def often : List UInt8 := [101, 116, 97, 111, 105, 110, 115, 104, 114, 100, 108, 117, 99, 109, 102, 119, 121, 112, 118, 98, 103, 107, 120, 106, 113, 122, 45, 47, 46, 58, 48, 32]
def oidx (c : UInt8) : Int := Lib.indexByte often c
theorem oidx_bounds (c : UInt8) : -1 ≤ oidx c ∧ oidx c ≤ 31 := by
  refine ⟨Lib.indexByte_ge _ _, ?_⟩
  have h : ∀ c : Fin 256, Lib.indexByte often (UInt8.ofNat c.val) ≤ 31 := by decide +kernel
  have := h ⟨c.toNat, c.toNat_lt⟩
  simpa [oidx] using this
theorem often_at {c : UInt8} {k : Nat} (h : oidx c = k) : often[k]? = some c := (Lib.indexByte_some h).1
theorem oidx_often {c : UInt8} {k : Nat} (h : often[k]? = some c) : oidx c = k := by
  have hk : k < 32 := (List.getElem?_eq_some_iff.1 h).1
  have hall : ∀ k : Fin 32, ∀ c, often[k.val]? = some c → oidx c = k.val := by
    intro k c hc
    have h2 : ∀ k : Fin 32, oidx (often.getD k.val 0) = k.val := by decide +kernel
    have e : often.getD k.val 0 = c := by simp [List.getD, hc]
    rw [← e]
    exact h2 k
  exact hall ⟨k, hk⟩ c h

/-- So many bits of a number, the high ones first; the number of bits. -/
def bitsOf : Nat → Nat → List Bool
  | 0, _ => []
  | m + 1, x => x.testBit m :: bitsOf m x
def val (l : List Bool) : Nat := l.foldl (fun n b => 2 * n + b.toNat) 0
theorem bitsOf_length (m x : Nat) : (bitsOf m x).length = m := by
  induction m with
  | zero => rfl
  | succ m ih => simp [bitsOf, ih]
theorem val_snoc (l : List Bool) (b : Bool) : val (l ++ [b]) = 2 * val l + b.toNat := by simp [val]
theorem foldl_val (l : List Bool) : ∀ n : Nat, l.foldl (fun n b => 2 * n + b.toNat) n = n * 2 ^ l.length + val l := by
  induction l with
  | nil => intro n; simp [val]
  | cons c r ih =>
    intro n
    simp only [List.foldl_cons, List.length_cons, val, Nat.mul_zero, Nat.zero_add]
    rw [ih, ih c.toNat, Nat.pow_succ, Nat.add_mul, ← Nat.add_assoc]
    congr 2
    rw [Nat.mul_comm 2 n, Nat.mul_assoc, Nat.mul_comm 2]
theorem val_cons (b : Bool) (l : List Bool) : val (b :: l) = b.toNat * 2 ^ l.length + val l := by
  have h := foldl_val l b.toNat
  simpa [val] using h
theorem val_append (a b : List Bool) : val (a ++ b) = val a * 2 ^ b.length + val b := by
  show (a ++ b).foldl _ 0 = _
  rw [List.foldl_append]
  exact foldl_val b (val a)
theorem val_lt (l : List Bool) : val l < 2 ^ l.length := by
  induction l with
  | nil => simp [val]
  | cons b r ih =>
    rw [val_cons, List.length_cons, Nat.pow_succ]
    cases b <;> simp <;> omega
theorem val_bitsOf (m x : Nat) : val (bitsOf m x) = x % 2 ^ m := by
  induction m with
  | zero => simp [bitsOf, val, Nat.mod_one]
  | succ m ih =>
    rw [bitsOf, val_cons, ih, bitsOf_length, Nat.toNat_testBit, Nat.pow_succ, Nat.mod_mul]
    rw [Nat.mul_comm, Nat.add_comm]
theorem bitsOf_val (l : List Bool) : bitsOf l.length (val l) = l := by
  have key : ∀ (l : List Bool) (n : Nat), bitsOf l.length (n * 2 ^ l.length + val l) = l := by
    intro l
    induction l with
    | nil => intro n; rfl
    | cons b r ih =>
      intro n
      have hlt := val_lt r
      rw [List.length_cons, bitsOf, val_cons]
      have e : n * 2 ^ (r.length + 1) + (b.toNat * 2 ^ r.length + val r) = (2 * n + b.toNat) * 2 ^ r.length + val r := by
        rw [Nat.pow_succ, Nat.add_mul, Nat.mul_comm 2 n, Nat.mul_assoc, Nat.mul_comm 2 (2 ^ r.length)]
        omega
      rw [e, ih]
      congr 1
      have h1 : ((2 * n + b.toNat) * 2 ^ r.length + val r) / 2 ^ r.length = 2 * n + b.toNat := by
        rw [Nat.add_comm, Nat.add_mul_div_right _ _ (Nat.two_pow_pos _), Nat.div_eq_of_lt hlt, Nat.zero_add]
      rw [Nat.testBit_eq_decide_div_mod_eq, h1]
      cases b <;> simp <;> omega
  have := key l 0
  simpa using this

/-- The bits of a byte; of a text. -/
def cw (c : UInt8) : List Bool := if 0 ≤ oidx c then bitsOf 6 (oidx c).toNat else bitsOf 9 (256 + c.toNat)
def encBits (s : List UInt8) : List Bool := s.flatMap cw
theorem cw_length (c : UInt8) : (cw c).length = if 0 ≤ oidx c then 6 else 9 := by
  unfold cw
  split <;> exact bitsOf_length _ _
theorem encBits_cons (c : UInt8) (s : List UInt8) : encBits (c :: s) = cw c ++ encBits s := rfl
theorem encBits_append (a b : List UInt8) : encBits (a ++ b) = encBits a ++ encBits b := by simp [encBits]
theorem encBits_le (s : List UInt8) : (encBits s).length ≤ 9 * s.length := by
  induction s with
  | nil => simp [encBits]
  | cons c s ih =>
    rw [encBits_cons, List.length_append, cw_length, List.length_cons]
    split <;> omega

/-- How many ones fill up. -/
def fill (n : Nat) : Nat := (8 - n % 8) % 8
def padded (l : List Bool) : List Bool := l ++ List.replicate (fill l.length) true
theorem padded_length (l : List Bool) : (padded l).length % 8 = 0 ∧ (padded l).length = (l.length + 7) / 8 * 8 := by
  simp only [padded, List.length_append, List.length_replicate, fill]
  omega

/-- Bits as bytes; what lacks of the last byte is noughts. -/
def pack (l : List Bool) : List UInt8 := if l.length = 0 then [] else UInt8.ofNat (val (l.take 8) * 2 ^ (8 - l.length)) :: pack (l.drop 8)
termination_by l.length
decreasing_by simp only [List.length_drop]; omega
theorem pack_nil : pack [] = [] := by rw [pack]; rfl
theorem pack_small {l : List Bool} (h0 : l.length ≠ 0) (h : l.length ≤ 8) : pack l = [UInt8.ofNat (val l * 2 ^ (8 - l.length))] := by
  rw [pack, if_neg h0, List.take_of_length_le h, List.drop_of_length_le h, pack_nil]
theorem pack_chunk (a l : List Bool) (h : a.length = 8) : pack (a ++ l) = UInt8.ofNat (val a) :: pack l := by
  rw [pack, if_neg (by rw [List.length_append]; omega), List.take_left' h, List.drop_left' h]
  congr 2
  rw [List.length_append, show 8 - (a.length + l.length) = 0 by omega]
  simp
theorem pack_length (l : List Bool) : (pack l).length = (l.length + 7) / 8 := by
  induction hn : l.length using Nat.strongRecOn generalizing l with
  | ind n ih =>
    subst hn
    by_cases h0 : l.length = 0
    · have : l = [] := List.eq_nil_of_length_eq_zero h0
      subst this
      simp [pack_nil]
    · rw [pack, if_neg h0, List.length_cons, ih (l.drop 8).length (by simp only [List.length_drop]; omega) _ rfl]
      simp only [List.length_drop]
      omega
/-- One bit more: at a byte's end a new byte; else into the last one. -/
theorem pack_snoc_new (l : List Bool) (b : Bool) (h : l.length % 8 = 0) : pack (l ++ [b]) = pack l ++ [UInt8.ofNat (b.toNat * 128)] := by
  induction hn : l.length using Nat.strongRecOn generalizing l with
  | ind n ih =>
    subst hn
    by_cases h0 : l.length = 0
    · have : l = [] := List.eq_nil_of_length_eq_zero h0
      subst this
      rw [pack_nil, List.nil_append, pack_small (by simp) (by simp)]
      simp [val]
    · have e : l = l.take 8 ++ l.drop 8 := (List.take_append_drop 8 l).symm
      have h8 : (l.take 8).length = 8 := by rw [List.length_take]; omega
      have hd : (l.drop 8).length = l.length - 8 := List.length_drop ..
      rw [e, List.append_assoc, pack_chunk _ _ h8, pack_chunk _ _ h8, ih (l.drop 8).length (by omega) _ (by omega) rfl]
      rfl
theorem pack_snoc_in (l : List Bool) (b : Bool) (h : l.length % 8 ≠ 0) : ∃ y : UInt8, (pack l)[l.length / 8]? = some y ∧ y.toNat % 2 ^ (8 - l.length % 8) = 0 ∧
    y.toNat + b.toNat * 2 ^ (7 - l.length % 8) < 256 ∧ pack (l ++ [b]) = (pack l).set (l.length / 8) (UInt8.ofNat (y.toNat + b.toNat * 2 ^ (7 - l.length % 8))) := by
  induction hn : l.length using Nat.strongRecOn generalizing l with
  | ind n ih =>
    subst hn
    by_cases h8 : l.length < 8
    · have h0 : l.length ≠ 0 := by omega
      have hlt := val_lt l
      have hm : l.length % 8 = l.length := Nat.mod_eq_of_lt h8
      have hd : l.length / 8 = 0 := Nat.div_eq_of_lt h8
      have hp : 2 ^ l.length * 2 ^ (8 - l.length) = 256 := by rw [← Nat.pow_add, show l.length + (8 - l.length) = 8 by omega]
      have hp2 : 2 ^ (8 - l.length) = 2 * 2 ^ (7 - l.length) := by rw [show 8 - l.length = (7 - l.length) + 1 by omega, Nat.pow_succ, Nat.mul_comm]
      have hv : val l * 2 ^ (8 - l.length) + 2 ^ (8 - l.length) ≤ 256 := by
        have := Nat.mul_le_mul_right (2 ^ (8 - l.length)) (show val l + 1 ≤ 2 ^ l.length from hlt)
        rw [hp, Nat.add_mul] at this
        omega
      have hpos := Nat.two_pow_pos (7 - l.length)
      have hvt : (UInt8.ofNat (val l * 2 ^ (8 - l.length))).toNat = val l * 2 ^ (8 - l.length) := by
        simp only [UInt8.toNat_ofNat']
        exact Nat.mod_eq_of_lt (by omega)
      have hbt : b.toNat ≤ 1 := by cases b <;> decide
      have hbm : b.toNat * 2 ^ (7 - l.length) ≤ 2 ^ (7 - l.length) := by
        have := Nat.mul_le_mul_right (2 ^ (7 - l.length)) hbt
        omega
      rw [pack_small h0 (by omega), hd, hm]
      refine ⟨_, rfl, by rw [hvt]; exact Nat.mul_mod_left _ _, by rw [hvt]; omega, ?_⟩
      rw [pack_small (by simp) (by simp; omega), hvt, val_snoc, List.length_append, List.length_singleton, show 8 - (l.length + 1) = 7 - l.length by omega]
      simp only [List.set_cons_zero]
      congr 2
      rw [Nat.add_mul, hp2, Nat.mul_comm 2 (val l), Nat.mul_assoc]
    · have e : l = l.take 8 ++ l.drop 8 := (List.take_append_drop 8 l).symm
      have h8' : (l.take 8).length = 8 := by rw [List.length_take]; omega
      have hd : (l.drop 8).length = l.length - 8 := List.length_drop ..
      obtain ⟨y, hy, h1, h2, h3⟩ := ih (l.drop 8).length (by omega) (l.drop 8) (by omega) rfl
      have e1 : l.length / 8 = (l.drop 8).length / 8 + 1 := by omega
      have e2 : l.length % 8 = (l.drop 8).length % 8 := by omega
      have ep : pack l = UInt8.ofNat (val (l.take 8)) :: pack (l.drop 8) := by
        have := pack_chunk (l.take 8) (l.drop 8) h8'
        rwa [← e] at this
      have ep2 : pack (l ++ [b]) = UInt8.ofNat (val (l.take 8)) :: pack (l.drop 8 ++ [b]) := by
        have := pack_chunk (l.take 8) (l.drop 8 ++ [b]) h8'
        rwa [← List.append_assoc, ← e] at this
      refine ⟨y, ?_, by rw [e2]; exact h1, by rw [e2]; exact h2, ?_⟩
      · rw [e1, ep, List.getElem?_cons_succ]
        exact hy
      · rw [e1, e2, ep, ep2, h3]
        rfl

/-- The bits of bytes. -/
def unpack (b : List UInt8) : List Bool := b.flatMap fun c => bitsOf 8 c.toNat
theorem unpack_length (b : List UInt8) : (unpack b).length = 8 * b.length := by
  induction b with
  | nil => rfl
  | cons c b ih =>
    have : unpack (c :: b) = bitsOf 8 c.toNat ++ unpack b := rfl
    rw [this, List.length_append, bitsOf_length, ih, List.length_cons]
    omega
theorem pack_unpack (b : List UInt8) : pack (unpack b) = b := by
  induction b with
  | nil => exact pack_nil
  | cons c b ih =>
    have e : unpack (c :: b) = bitsOf 8 c.toNat ++ unpack b := rfl
    rw [e, pack_chunk _ _ (bitsOf_length _ _), ih, val_bitsOf]
    congr 1
    apply UInt8.toNat_inj.1
    simp only [UInt8.toNat_ofNat']
    have := c.toNat_lt
    omega
theorem unpack_pack (l : List Bool) (h : l.length % 8 = 0) : unpack (pack l) = l := by
  induction hn : l.length using Nat.strongRecOn generalizing l with
  | ind n ih =>
    subst hn
    by_cases h0 : l.length = 0
    · have : l = [] := List.eq_nil_of_length_eq_zero h0
      subst this
      rw [pack_nil]
      rfl
    · have e : l = l.take 8 ++ l.drop 8 := (List.take_append_drop 8 l).symm
      have h8 : (l.take 8).length = 8 := by rw [List.length_take]; omega
      have hd : (l.drop 8).length = l.length - 8 := List.length_drop ..
      have hlt := val_lt (l.take 8)
      rw [h8] at hlt
      have hb := bitsOf_val (l.take 8)
      rw [h8] at hb
      conv => lhs; rw [e]
      rw [pack_chunk _ _ h8]
      show bitsOf 8 (UInt8.ofNat (val (l.take 8))).toNat ++ unpack (pack (l.drop 8)) = l
      rw [ih (l.drop 8).length (by omega) _ (by omega) rfl]
      simp only [UInt8.toNat_ofNat']
      rw [Nat.mod_eq_of_lt (by omega), hb]
      exact e.symm
/-- A text as bytes. -/
def enc (s : List UInt8) : List UInt8 := pack (padded (encBits s))
theorem enc_length (s : List UInt8) : (enc s).length = ((encBits s).length + 7) / 8 := by
  rw [enc, pack_length, (padded_length _).2]
  omega
end Go.Proofs.YtkbbkamnmdeagaaDoor
namespace Go.Proofs.YtkbbkamnmdeagaaDoor

/-- The text of bits. -/
def dec (l : List Bool) : Option (List UInt8) :=
  if l.length < 8 ∧ l.all (fun b => b) = true then some []
  else if _h6 : l.length < 6 then none
  else if l.head? = some false then (dec (l.drop 6)).map (often.getD (val ((l.drop 1).take 5)) 0 :: ·)
  else if _h9 : l.length < 9 then none
  else if 0 ≤ oidx (UInt8.ofNat (val ((l.drop 1).take 8))) then none
  else (dec (l.drop 9)).map (UInt8.ofNat (val ((l.drop 1).take 8)) :: ·)
termination_by l.length
decreasing_by
  · simp only [List.length_drop]; omega
  · simp only [List.length_drop]; omega
theorem dec_ones {l : List Bool} (h : l.length < 8) (h1 : l.all (fun b => b) = true) : dec l = some [] := by rw [dec, if_pos ⟨h, h1⟩]
theorem dec_short {l : List Bool} (h : ¬ (l.length < 8 ∧ l.all (fun b => b) = true)) (h6 : l.length < 6) : dec l = none := by rw [dec, if_neg h, dif_pos h6]
theorem dec_often {l : List Bool} (h : ¬ (l.length < 8 ∧ l.all (fun b => b) = true)) (h6 : ¬ l.length < 6) (h0 : l.head? = some false) :
    dec l = (dec (l.drop 6)).map (often.getD (val ((l.drop 1).take 5)) 0 :: ·) := by rw [dec, if_neg h, dif_neg h6, if_pos h0]
theorem dec_cut {l : List Bool} (h : ¬ (l.length < 8 ∧ l.all (fun b => b) = true)) (h6 : ¬ l.length < 6) (h0 : l.head? ≠ some false) (h9 : l.length < 9) : dec l = none := by
  rw [dec, if_neg h, dif_neg h6, if_neg h0, dif_pos h9]
theorem dec_bad {l : List Bool} (h9 : ¬ l.length < 9) (h0 : l.head? ≠ some false) (hi : 0 ≤ oidx (UInt8.ofNat (val ((l.drop 1).take 8)))) : dec l = none := by
  rw [dec, if_neg (by omega), dif_neg (by omega), if_neg h0, dif_neg h9, if_pos hi]
theorem dec_rare {l : List Bool} (h9 : ¬ l.length < 9) (h0 : l.head? ≠ some false) (hi : ¬ 0 ≤ oidx (UInt8.ofNat (val ((l.drop 1).take 8)))) :
    dec l = (dec (l.drop 9)).map (UInt8.ofNat (val ((l.drop 1).take 8)) :: ·) := by
  rw [dec, if_neg (by omega), dif_neg (by omega), if_neg h0, dif_neg h9, if_neg hi]

theorem cw_often {c : UInt8} (h : 0 ≤ oidx c) : ∃ k, oidx c = (k : Nat) ∧ k < 32 ∧ cw c = false :: bitsOf 5 k ∧ often.getD k 0 = c := by
  obtain ⟨k, hk⟩ := Int.eq_ofNat_of_zero_le h
  have hb := (oidx_bounds c).2
  refine ⟨k, hk, by omega, ?_, ?_⟩
  · rw [cw, if_pos h, hk, Int.toNat_natCast, bitsOf]
    congr 1
    rw [Nat.testBit_eq_decide_div_mod_eq, Nat.div_eq_of_lt (by omega)]
    rfl
  · have := often_at hk
    simp [List.getD, this]
theorem cw_rare {c : UInt8} (h : ¬ 0 ≤ oidx c) : cw c = true :: bitsOf 8 c.toNat := by
  have hc := c.toNat_lt
  rw [cw, if_neg h, bitsOf]
  congr 1
  · rw [Nat.testBit_eq_decide_div_mod_eq, show (256 + c.toNat) / 2 ^ 8 = 1 by omega]
    rfl
  · have e : ∀ m, m ≤ 8 → bitsOf m (256 + c.toNat) = bitsOf m c.toNat := by
      intro m
      induction m with
      | zero => intro _; rfl
      | succ m ih =>
        intro hm
        rw [bitsOf, bitsOf, ih (by omega)]
        congr 1
        have := Nat.testBit_two_pow_add_gt (show m < 8 by omega) c.toNat
        exact this
    exact e 8 (by omega)

/-- Every text comes back. -/
theorem dec_enc (s : List UInt8) (j : Nat) (hj : j < 8) : dec (encBits s ++ List.replicate j true) = some s := by
  induction s with
  | nil => exact dec_ones (by simpa [encBits] using hj) (by simp [encBits])
  | cons c s ih =>
    rw [encBits_cons, List.append_assoc]
    by_cases h : 0 ≤ oidx c
    · obtain ⟨k, hk, hk32, hcw, ho⟩ := cw_often h
      have h5 := bitsOf_length 5 k
      have hv := val_bitsOf 5 k
      rw [hcw]
      generalize bitsOf 5 k = q at *
      rw [dec_often (by simp) (by simp; omega) rfl]
      have e1 : (false :: q ++ (encBits s ++ List.replicate j true)).drop 6 = encBits s ++ List.replicate j true := by
        rw [List.drop_left' (by simp [h5])]
      have e2 : ((false :: q ++ (encBits s ++ List.replicate j true)).drop 1).take 5 = q := by
        rw [List.cons_append, List.drop_succ_cons, List.drop_zero, List.take_left' h5]
      rw [e1, e2, ih, hv, Nat.mod_eq_of_lt (by omega), ho]
      rfl
    · have hcw := cw_rare h
      have h8 := bitsOf_length 8 c.toNat
      have hv := val_bitsOf 8 c.toNat
      have hc := c.toNat_lt
      rw [hcw]
      generalize bitsOf 8 c.toNat = q at *
      have e2 : ((true :: q ++ (encBits s ++ List.replicate j true)).drop 1).take 8 = q := by
        rw [List.cons_append, List.drop_succ_cons, List.drop_zero, List.take_left' h8]
      have e3 : UInt8.ofNat (val q) = c := by
        rw [hv, Nat.mod_eq_of_lt (by omega)]
        simp
      rw [dec_rare (by simp; omega) (by simp) (by rw [e2, e3]; exact h), e2, e3]
      have e1 : (true :: q ++ (encBits s ++ List.replicate j true)).drop 9 = encBits s ++ List.replicate j true := by
        rw [List.drop_left' (by simp [h8])]
      rw [e1, ih]
      rfl
theorem all_true {l : List Bool} (h : l.all (fun b => b) = true) : l = List.replicate l.length true := by
  apply List.eq_replicate_of_mem
  intro b hb
  exact (List.all_eq_true.1 h) b hb

set_option maxRecDepth 100000 in
theorem dec_inv : ∀ (n : Nat) (l : List Bool), l.length = n → ∀ s, dec l = some s → ∃ j, j < 8 ∧ l = encBits s ++ List.replicate j true := by
  intro n
  induction n using Nat.strongRecOn with
  | ind n ih =>
    intro l hn s h
    by_cases h1 : l.length < 8 ∧ l.all (fun b => b) = true
    · rw [dec_ones h1.1 h1.2] at h
      injection h with h
      subst h
      exact ⟨l.length, h1.1, by simpa [encBits] using all_true h1.2⟩
    by_cases h6 : l.length < 6
    · rw [dec_short h1 h6] at h; cases h
    by_cases h0 : l.head? = some false
    · rw [dec_often h1 h6 h0] at h
      obtain ⟨r, hr, rfl⟩ := Option.map_eq_some_iff.1 h
      obtain ⟨j, hj, hd⟩ := ih _ (by simp only [List.length_drop]; omega) (l.drop 6) rfl r hr
      refine ⟨j, hj, ?_⟩
      match l, h0 with
      | b :: q, h0 =>
        have hb : b = false := by simpa using h0
        subst hb
        simp only [List.length_cons] at h6
        have hq : (q.take 5).length = 5 := by rw [List.length_take]; omega
        have hlt := val_lt (q.take 5)
        rw [hq] at hlt
        have hk : often[val (q.take 5)]? = some (often.getD (val (q.take 5)) 0) := by
          simp only [List.getD]
          rw [List.getElem?_eq_getElem (by simpa [often] using hlt)]
          rfl
        have hi := oidx_often hk
        have hcw : cw (often.getD (val (q.take 5)) 0) = false :: q.take 5 := by
          obtain ⟨k, hk2, _, hcw, _⟩ := cw_often (show 0 ≤ oidx (often.getD (val (q.take 5)) 0) by rw [hi]; omega)
          have : k = val (q.take 5) := by rw [hi] at hk2; omega
          subst this
          rw [hcw]
          have := bitsOf_val (q.take 5)
          rw [hq] at this
          rw [this]
        show false :: q = _
        rw [List.drop_succ_cons, List.drop_zero, encBits_cons, hcw, List.append_assoc, ← hd]
        rw [List.drop_succ_cons, List.cons_append, List.take_append_drop]
    by_cases h9 : l.length < 9
    · rw [dec_cut h1 h6 h0 h9] at h; cases h
    by_cases hi : 0 ≤ oidx (UInt8.ofNat (val ((l.drop 1).take 8)))
    · rw [dec_bad h9 h0 hi] at h; cases h
    rw [dec_rare h9 h0 hi] at h
    obtain ⟨r, hr, rfl⟩ := Option.map_eq_some_iff.1 h
    obtain ⟨j, hj, hd⟩ := ih _ (by simp only [List.length_drop]; omega) (l.drop 9) rfl r hr
    refine ⟨j, hj, ?_⟩
    match l, h0 with
    | [], _ => simp at h9
    | b :: q, h0 =>
      have hb : b = true := by
        cases b
        · simp at h0
        · rfl
      subst hb
      simp only [List.length_cons] at h9
      simp only [List.drop_succ_cons, List.drop_zero] at hi ⊢
      have hq : (q.take 8).length = 8 := by rw [List.length_take]; omega
      have hlt := val_lt (q.take 8)
      rw [hq] at hlt
      have hcw := cw_rare hi
      have e : (UInt8.ofNat (val (q.take 8))).toNat = val (q.take 8) := by
        simp only [UInt8.toNat_ofNat']
        omega
      have hb := bitsOf_val (q.take 8)
      rw [hq] at hb
      rw [e, hb] at hcw
      rw [encBits_cons, hcw, List.append_assoc, ← hd]
      rw [List.drop_succ_cons, List.cons_append, List.take_append_drop]
/-- The text of bytes. -/
def decode (b : List UInt8) : Option (List UInt8) := dec (unpack b)
theorem decode_enc (s : List UInt8) : decode (enc s) = some s := by
  unfold decode enc
  rw [unpack_pack _ (padded_length _).1]
  exact dec_enc s _ (by unfold fill; omega)
theorem enc_decode (b s : List UInt8) (h : decode b = some s) : enc s = b := by
  obtain ⟨j, hj, hl⟩ := dec_inv _ (unpack b) rfl s h
  have hlen := unpack_length b
  rw [hl, List.length_append, List.length_replicate] at hlen
  have hf : fill (encBits s).length = j := by unfold fill; omega
  rw [enc, padded, hf, ← hl, pack_unpack]
end Go.Proofs.YtkbbkamnmdeagaaDoor
