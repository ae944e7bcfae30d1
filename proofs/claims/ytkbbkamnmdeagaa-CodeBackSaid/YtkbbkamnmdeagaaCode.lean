/-
  Plain law: texts as bits. Nothing of the program.
-/
import Derived.Lib.IndexLaws
namespace Go.Proofs.Ytkbbkamnmdeagaa

/-- The bytes that are often met. -/
def often : List UInt8 := [101, 116, 97, 111, 105, 110, 115, 104, 114, 100, 108, 117, 99, 109, 102, 119, 121, 112, 118, 98, 103, 107, 120, 106, 113, 122, 45, 47, 46, 58, 48, 32]
def oidx (c : UInt8) : Int := Lib.indexByte often c
theorem oidx_bounds (c : UInt8) : -1 ≤ oidx c ∧ oidx c ≤ 31 := by
  refine ⟨Lib.indexByte_ge _ _, ?_⟩
  have h : ∀ c : Fin 256, Lib.indexByte often (UInt8.ofNat c.val) ≤ 31 := by decide +kernel
  have := h ⟨c.toNat, c.toNat_lt⟩
  simpa [oidx] using this
theorem often_at {c : UInt8} {k : Nat} (h : oidx c = k) : often[k]? = some c := (Lib.indexByte_some h).1
theorem oidx_often {c : UInt8} {k : Nat} (h : often[k]? = some c) : oidx c = k := by
  have hk : k < 32 := (List.getElem?_eq_some_iff.1 h).1
  have hall : ∀ k : Fin 32, ∀ c, often[k.val]? = some c → oidx c = k.val := by
    intro k c hc
    have h2 : ∀ k : Fin 32, oidx (often.getD k.val 0) = k.val := by decide +kernel
    have e : often.getD k.val 0 = c := by simp [List.getD, hc]
    rw [← e]
    exact h2 k
  exact hall ⟨k, hk⟩ c h

/-- So many bits of a number, the high ones first; the number of bits. -/
def bitsOf : Nat → Nat → List Bool
  | 0, _ => []
  | m + 1, x => x.testBit m :: bitsOf m x
def val (l : List Bool) : Nat := l.foldl (fun n b => 2 * n + b.toNat) 0
theorem bitsOf_length (m x : Nat) : (bitsOf m x).length = m := by
  induction m with
  | zero => rfl
  | succ m ih => simp [bitsOf, ih]
theorem val_snoc (l : List Bool) (b : Bool) : val (l ++ [b]) = 2 * val l + b.toNat := by simp [val]
theorem foldl_val (l : List Bool) : ∀ n : Nat, l.foldl (fun n b => 2 * n + b.toNat) n = n * 2 ^ l.length + val l := by
  induction l with
  | nil => intro n; simp [val]
  | cons c r ih =>
    intro n
    simp only [List.foldl_cons, List.length_cons, val, Nat.mul_zero, Nat.zero_add]
    rw [ih, ih c.toNat, Nat.pow_succ, Nat.add_mul, ← Nat.add_assoc]
    congr 2
    rw [Nat.mul_comm 2 n, Nat.mul_assoc, Nat.mul_comm 2]
theorem val_cons (b : Bool) (l : List Bool) : val (b :: l) = b.toNat * 2 ^ l.length + val l := by
  have h := foldl_val l b.toNat
  simpa [val] using h
theorem val_append (a b : List Bool) : val (a ++ b) = val a * 2 ^ b.length + val b := by
  show (a ++ b).foldl _ 0 = _
  rw [List.foldl_append]
  exact foldl_val b (val a)
theorem val_lt (l : List Bool) : val l < 2 ^ l.length := by
  induction l with
  | nil => simp [val]
  | cons b r ih =>
    rw [val_cons, List.length_cons, Nat.pow_succ]
    cases b <;> simp <;> omega
theorem val_bitsOf (m x : Nat) : val (bitsOf m x) = x % 2 ^ m := by
  induction m with
  | zero => simp [bitsOf, val, Nat.mod_one]
  | succ m ih =>
    rw [bitsOf, val_cons, ih, bitsOf_length, Nat.toNat_testBit, Nat.pow_succ, Nat.mod_mul]
    rw [Nat.mul_comm, Nat.add_comm]
theorem bitsOf_val (l : List Bool) : bitsOf l.length (val l) = l := by
  have key : ∀ (l : List Bool) (n : Nat), bitsOf l.length (n * 2 ^ l.length + val l) = l := by
    intro l
    induction l with
    | nil => intro n; rfl
    | cons b r ih =>
      intro n
      have hlt := val_lt r
      rw [List.length_cons, bitsOf, val_cons]
      have e : n * 2 ^ (r.length + 1) + (b.toNat * 2 ^ r.length + val r) = (2 * n + b.toNat) * 2 ^ r.length + val r := by
        rw [Nat.pow_succ, Nat.add_mul, Nat.mul_comm 2 n, Nat.mul_assoc, Nat.mul_comm 2 (2 ^ r.length)]
        omega
      rw [e, ih]
      congr 1
      have h1 : ((2 * n + b.toNat) * 2 ^ r.length + val r) / 2 ^ r.length = 2 * n + b.toNat := by
        rw [Nat.add_comm, Nat.add_mul_div_right _ _ (Nat.two_pow_pos _), Nat.div_eq_of_lt hlt, Nat.zero_add]
      rw [Nat.testBit_eq_decide_div_mod_eq, h1]
      cases b <;> simp <;> omega
  have := key l 0
  simpa using this

/-- The bits of a byte; of a text. -/
def cw (c : UInt8) : List Bool := if 0 ≤ oidx c then bitsOf 6 (oidx c).toNat else bitsOf 9 (256 + c.toNat)
def encBits (s : List UInt8) : List Bool := s.flatMap cw
theorem cw_length (c : UInt8) : (cw c).length = if 0 ≤ oidx c then 6 else 9 := by
  unfold cw
  split <;> exact bitsOf_length _ _
theorem encBits_cons (c : UInt8) (s : List UInt8) : encBits (c :: s) = cw c ++ encBits s := rfl
theorem encBits_append (a b : List UInt8) : encBits (a ++ b) = encBits a ++ encBits b := by simp [encBits]
theorem encBits_le (s : List UInt8) : (encBits s).length ≤ 9 * s.length := by
  induction s with
  | nil => simp [encBits]
  | cons c s ih =>
    rw [encBits_cons, List.length_append, cw_length, List.length_cons]
    split <;> omega

/-- How many ones fill up. -/
def fill (n : Nat) : Nat := (8 - n % 8) % 8
def padded (l : List Bool) : List Bool := l ++ List.replicate (fill l.length) true
theorem padded_length (l : List Bool) : (padded l).length % 8 = 0 ∧ (padded l).length = (l.length + 7) / 8 * 8 := by
  simp only [padded, List.length_append, List.length_replicate, fill]
  omega

/-- Bits as bytes; what lacks of the last byte is noughts. -/
def pack (l : List Bool) : List UInt8 := if l.length = 0 then [] else UInt8.ofNat (val (l.take 8) * 2 ^ (8 - l.length)) :: pack (l.drop 8)
termination_by l.length
decreasing_by simp only [List.length_drop]; omega
theorem pack_nil : pack [] = [] := by rw [pack]; rfl
theorem pack_small {l : List Bool} (h0 : l.length ≠ 0) (h : l.length ≤ 8) : pack l = [UInt8.ofNat (val l * 2 ^ (8 - l.length))] := by
  rw [pack, if_neg h0, List.take_of_length_le h, List.drop_of_length_le h, pack_nil]
theorem pack_chunk (a l : List Bool) (h : a.length = 8) : pack (a ++ l) = UInt8.ofNat (val a) :: pack l := by
  rw [pack, if_neg (by rw [List.length_append]; omega), List.take_left' h, List.drop_left' h]
  congr 2
  rw [List.length_append, show 8 - (a.length + l.length) = 0 by omega]
  simp
theorem pack_length (l : List Bool) : (pack l).length = (l.length + 7) / 8 := by
  induction hn : l.length using Nat.strongRecOn generalizing l with
  | ind n ih =>
    subst hn
    by_cases h0 : l.length = 0
    · have : l = [] := List.eq_nil_of_length_eq_zero h0
      subst this
      simp [pack_nil]
    · rw [pack, if_neg h0, List.length_cons, ih (l.drop 8).length (by simp only [List.length_drop]; omega) _ rfl]
      simp only [List.length_drop]
      omega
/-- One bit more: at a byte's end a new byte; else into the last one. -/
theorem pack_snoc_new (l : List Bool) (b : Bool) (h : l.length % 8 = 0) : pack (l ++ [b]) = pack l ++ [UInt8.ofNat (b.toNat * 128)] := by
  induction hn : l.length using Nat.strongRecOn generalizing l with
  | ind n ih =>
    subst hn
    by_cases h0 : l.length = 0
    · have : l = [] := List.eq_nil_of_length_eq_zero h0
      subst this
      rw [pack_nil, List.nil_append, pack_small (by simp) (by simp)]
      simp [val]
    · have e : l = l.take 8 ++ l.drop 8 := (List.take_append_drop 8 l).symm
      have h8 : (l.take 8).length = 8 := by rw [List.length_take]; omega
      have hd : (l.drop 8).length = l.length - 8 := List.length_drop ..
      rw [e, List.append_assoc, pack_chunk _ _ h8, pack_chunk _ _ h8, ih (l.drop 8).length (by omega) _ (by omega) rfl]
      rfl
theorem pack_snoc_in (l : List Bool) (b : Bool) (h : l.length % 8 ≠ 0) : ∃ y : UInt8, (pack l)[l.length / 8]? = some y ∧ y.toNat % 2 ^ (8 - l.length % 8) = 0 ∧
    y.toNat + b.toNat * 2 ^ (7 - l.length % 8) < 256 ∧ pack (l ++ [b]) = (pack l).set (l.length / 8) (UInt8.ofNat (y.toNat + b.toNat * 2 ^ (7 - l.length % 8))) := by
  induction hn : l.length using Nat.strongRecOn generalizing l with
  | ind n ih =>
    subst hn
    by_cases h8 : l.length < 8
    · have h0 : l.length ≠ 0 := by omega
      have hlt := val_lt l
      have hm : l.length % 8 = l.length := Nat.mod_eq_of_lt h8
      have hd : l.length / 8 = 0 := Nat.div_eq_of_lt h8
      have hp : 2 ^ l.length * 2 ^ (8 - l.length) = 256 := by rw [← Nat.pow_add, show l.length + (8 - l.length) = 8 by omega]
      have hp2 : 2 ^ (8 - l.length) = 2 * 2 ^ (7 - l.length) := by rw [show 8 - l.length = (7 - l.length) + 1 by omega, Nat.pow_succ, Nat.mul_comm]
      have hv : val l * 2 ^ (8 - l.length) + 2 ^ (8 - l.length) ≤ 256 := by
        have := Nat.mul_le_mul_right (2 ^ (8 - l.length)) (show val l + 1 ≤ 2 ^ l.length from hlt)
        rw [hp, Nat.add_mul] at this
        omega
      have hpos := Nat.two_pow_pos (7 - l.length)
      have hvt : (UInt8.ofNat (val l * 2 ^ (8 - l.length))).toNat = val l * 2 ^ (8 - l.length) := by
        simp only [UInt8.toNat_ofNat']
        exact Nat.mod_eq_of_lt (by omega)
      have hbt : b.toNat ≤ 1 := by cases b <;> decide
      have hbm : b.toNat * 2 ^ (7 - l.length) ≤ 2 ^ (7 - l.length) := by
        have := Nat.mul_le_mul_right (2 ^ (7 - l.length)) hbt
        omega
      rw [pack_small h0 (by omega), hd, hm]
      refine ⟨_, rfl, by rw [hvt]; exact Nat.mul_mod_left _ _, by rw [hvt]; omega, ?_⟩
      rw [pack_small (by simp) (by simp; omega), hvt, val_snoc, List.length_append, List.length_singleton, show 8 - (l.length + 1) = 7 - l.length by omega]
      simp only [List.set_cons_zero]
      congr 2
      rw [Nat.add_mul, hp2, Nat.mul_comm 2 (val l), Nat.mul_assoc]
    · have e : l = l.take 8 ++ l.drop 8 := (List.take_append_drop 8 l).symm
      have h8' : (l.take 8).length = 8 := by rw [List.length_take]; omega
      have hd : (l.drop 8).length = l.length - 8 := List.length_drop ..
      obtain ⟨y, hy, h1, h2, h3⟩ := ih (l.drop 8).length (by omega) (l.drop 8) (by omega) rfl
      have e1 : l.length / 8 = (l.drop 8).length / 8 + 1 := by omega
      have e2 : l.length % 8 = (l.drop 8).length % 8 := by omega
      have ep : pack l = UInt8.ofNat (val (l.take 8)) :: pack (l.drop 8) := by
        have := pack_chunk (l.take 8) (l.drop 8) h8'
        rwa [← e] at this
      have ep2 : pack (l ++ [b]) = UInt8.ofNat (val (l.take 8)) :: pack (l.drop 8 ++ [b]) := by
        have := pack_chunk (l.take 8) (l.drop 8 ++ [b]) h8'
        rwa [← List.append_assoc, ← e] at this
      refine ⟨y, ?_, by rw [e2]; exact h1, by rw [e2]; exact h2, ?_⟩
      · rw [e1, ep, List.getElem?_cons_succ]
        exact hy
      · rw [e1, e2, ep, ep2, h3]
        rfl

/-- The bits of bytes. -/
def unpack (b : List UInt8) : List Bool := b.flatMap fun c => bitsOf 8 c.toNat
theorem unpack_length (b : List UInt8) : (unpack b).length = 8 * b.length := by
  induction b with
  | nil => rfl
  | cons c b ih =>
    have : unpack (c :: b) = bitsOf 8 c.toNat ++ unpack b := rfl
    rw [this, List.length_append, bitsOf_length, ih, List.length_cons]
    omega
theorem pack_unpack (b : List UInt8) : pack (unpack b) = b := by
  induction b with
  | nil => exact pack_nil
  | cons c b ih =>
    have e : unpack (c :: b) = bitsOf 8 c.toNat ++ unpack b := rfl
    rw [e, pack_chunk _ _ (bitsOf_length _ _), ih, val_bitsOf]
    congr 1
    apply UInt8.toNat_inj.1
    simp only [UInt8.toNat_ofNat']
    have := c.toNat_lt
    omega
theorem unpack_pack (l : List Bool) (h : l.length % 8 = 0) : unpack (pack l) = l := by
  induction hn : l.length using Nat.strongRecOn generalizing l with
  | ind n ih =>
    subst hn
    by_cases h0 : l.length = 0
    · have : l = [] := List.eq_nil_of_length_eq_zero h0
      subst this
      rw [pack_nil]
      rfl
    · have e : l = l.take 8 ++ l.drop 8 := (List.take_append_drop 8 l).symm
      have h8 : (l.take 8).length = 8 := by rw [List.length_take]; omega
      have hd : (l.drop 8).length = l.length - 8 := List.length_drop ..
      have hlt := val_lt (l.take 8)
      rw [h8] at hlt
      have hb := bitsOf_val (l.take 8)
      rw [h8] at hb
      conv => lhs; rw [e]
      rw [pack_chunk _ _ h8]
      show bitsOf 8 (UInt8.ofNat (val (l.take 8))).toNat ++ unpack (pack (l.drop 8)) = l
      rw [ih (l.drop 8).length (by omega) _ (by omega) rfl]
      simp only [UInt8.toNat_ofNat']
      rw [Nat.mod_eq_of_lt (by omega), hb]
      exact e.symm
/-- A text as bytes. -/
def enc (s : List UInt8) : List UInt8 := pack (padded (encBits s))
theorem enc_length (s : List UInt8) : (enc s).length = ((encBits s).length + 7) / 8 := by
  rw [enc, pack_length, (padded_length _).2]
  omega
end Go.Proofs.Ytkbbkamnmdeagaa
