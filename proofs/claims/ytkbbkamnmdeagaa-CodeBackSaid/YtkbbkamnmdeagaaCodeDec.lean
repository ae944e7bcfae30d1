/-
  Plain law: what bits are read as; every text comes back; what is read is written so. Nothing of the program.
-/
import Derived.Test.YtkbbkamnmdeagaaCode
namespace Go.Proofs.Ytkbbkamnmdeagaa

/-- The text of bits. -/
def dec (l : List Bool) : Option (List UInt8) :=
  if l.length < 8 ∧ l.all (fun b => b) = true then some []
  else if _h6 : l.length < 6 then none
  else if l.head? = some false then (dec (l.drop 6)).map (often.getD (val ((l.drop 1).take 5)) 0 :: ·)
  else if _h9 : l.length < 9 then none
  else if 0 ≤ oidx (UInt8.ofNat (val ((l.drop 1).take 8))) then none
  else (dec (l.drop 9)).map (UInt8.ofNat (val ((l.drop 1).take 8)) :: ·)
termination_by l.length
decreasing_by
  · simp only [List.length_drop]; omega
  · simp only [List.length_drop]; omega
theorem dec_ones {l : List Bool} (h : l.length < 8) (h1 : l.all (fun b => b) = true) : dec l = some [] := by rw [dec, if_pos ⟨h, h1⟩]
theorem dec_short {l : List Bool} (h : ¬ (l.length < 8 ∧ l.all (fun b => b) = true)) (h6 : l.length < 6) : dec l = none := by rw [dec, if_neg h, dif_pos h6]
theorem dec_often {l : List Bool} (h : ¬ (l.length < 8 ∧ l.all (fun b => b) = true)) (h6 : ¬ l.length < 6) (h0 : l.head? = some false) :
    dec l = (dec (l.drop 6)).map (often.getD (val ((l.drop 1).take 5)) 0 :: ·) := by rw [dec, if_neg h, dif_neg h6, if_pos h0]
theorem dec_cut {l : List Bool} (h : ¬ (l.length < 8 ∧ l.all (fun b => b) = true)) (h6 : ¬ l.length < 6) (h0 : l.head? ≠ some false) (h9 : l.length < 9) : dec l = none := by
  rw [dec, if_neg h, dif_neg h6, if_neg h0, dif_pos h9]
theorem dec_bad {l : List Bool} (h9 : ¬ l.length < 9) (h0 : l.head? ≠ some false) (hi : 0 ≤ oidx (UInt8.ofNat (val ((l.drop 1).take 8)))) : dec l = none := by
  rw [dec, if_neg (by omega), dif_neg (by omega), if_neg h0, dif_neg h9, if_pos hi]
theorem dec_rare {l : List Bool} (h9 : ¬ l.length < 9) (h0 : l.head? ≠ some false) (hi : ¬ 0 ≤ oidx (UInt8.ofNat (val ((l.drop 1).take 8)))) :
    dec l = (dec (l.drop 9)).map (UInt8.ofNat (val ((l.drop 1).take 8)) :: ·) := by
  rw [dec, if_neg (by omega), dif_neg (by omega), if_neg h0, dif_neg h9, if_neg hi]

theorem cw_often {c : UInt8} (h : 0 ≤ oidx c) : ∃ k, oidx c = (k : Nat) ∧ k < 32 ∧ cw c = false :: bitsOf 5 k ∧ often.getD k 0 = c := by
  obtain ⟨k, hk⟩ := Int.eq_ofNat_of_zero_le h
  have hb := (oidx_bounds c).2
  refine ⟨k, hk, by omega, ?_, ?_⟩
  · rw [cw, if_pos h, hk, Int.toNat_natCast, bitsOf]
    congr 1
    rw [Nat.testBit_eq_decide_div_mod_eq, Nat.div_eq_of_lt (by omega)]
    rfl
  · have := often_at hk
    simp [List.getD, this]
theorem cw_rare {c : UInt8} (h : ¬ 0 ≤ oidx c) : cw c = true :: bitsOf 8 c.toNat := by
  have hc := c.toNat_lt
  rw [cw, if_neg h, bitsOf]
  congr 1
  · rw [Nat.testBit_eq_decide_div_mod_eq, show (256 + c.toNat) / 2 ^ 8 = 1 by omega]
    rfl
  · have e : ∀ m, m ≤ 8 → bitsOf m (256 + c.toNat) = bitsOf m c.toNat := by
      intro m
      induction m with
      | zero => intro _; rfl
      | succ m ih =>
        intro hm
        rw [bitsOf, bitsOf, ih (by omega)]
        congr 1
        have := Nat.testBit_two_pow_add_gt (show m < 8 by omega) c.toNat
        exact this
    exact e 8 (by omega)

/-- Every text comes back. -/
theorem dec_enc (s : List UInt8) (j : Nat) (hj : j < 8) : dec (encBits s ++ List.replicate j true) = some s := by
  induction s with
  | nil => exact dec_ones (by simpa [encBits] using hj) (by simp [encBits])
  | cons c s ih =>
    rw [encBits_cons, List.append_assoc]
    by_cases h : 0 ≤ oidx c
    · obtain ⟨k, hk, hk32, hcw, ho⟩ := cw_often h
      have h5 := bitsOf_length 5 k
      have hv := val_bitsOf 5 k
      rw [hcw]
      generalize bitsOf 5 k = q at *
      rw [dec_often (by simp) (by simp; omega) rfl]
      have e1 : (false :: q ++ (encBits s ++ List.replicate j true)).drop 6 = encBits s ++ List.replicate j true := by
        rw [List.drop_left' (by simp [h5])]
      have e2 : ((false :: q ++ (encBits s ++ List.replicate j true)).drop 1).take 5 = q := by
        rw [List.cons_append, List.drop_succ_cons, List.drop_zero, List.take_left' h5]
      rw [e1, e2, ih, hv, Nat.mod_eq_of_lt (by omega), ho]
      rfl
    · have hcw := cw_rare h
      have h8 := bitsOf_length 8 c.toNat
      have hv := val_bitsOf 8 c.toNat
      have hc := c.toNat_lt
      rw [hcw]
      generalize bitsOf 8 c.toNat = q at *
      have e2 : ((true :: q ++ (encBits s ++ List.replicate j true)).drop 1).take 8 = q := by
        rw [List.cons_append, List.drop_succ_cons, List.drop_zero, List.take_left' h8]
      have e3 : UInt8.ofNat (val q) = c := by
        rw [hv, Nat.mod_eq_of_lt (by omega)]
        simp
      rw [dec_rare (by simp; omega) (by simp) (by rw [e2, e3]; exact h), e2, e3]
      have e1 : (true :: q ++ (encBits s ++ List.replicate j true)).drop 9 = encBits s ++ List.replicate j true := by
        rw [List.drop_left' (by simp [h8])]
      rw [e1, ih]
      rfl
theorem all_true {l : List Bool} (h : l.all (fun b => b) = true) : l = List.replicate l.length true := by
  apply List.eq_replicate_of_mem
  intro b hb
  exact (List.all_eq_true.1 h) b hb

set_option maxRecDepth 100000 in
theorem dec_inv : ∀ (n : Nat) (l : List Bool), l.length = n → ∀ s, dec l = some s → ∃ j, j < 8 ∧ l = encBits s ++ List.replicate j true := by
  intro n
  induction n using Nat.strongRecOn with
  | ind n ih =>
    intro l hn s h
    by_cases h1 : l.length < 8 ∧ l.all (fun b => b) = true
    · rw [dec_ones h1.1 h1.2] at h
      injection h with h
      subst h
      exact ⟨l.length, h1.1, by simpa [encBits] using all_true h1.2⟩
    by_cases h6 : l.length < 6
    · rw [dec_short h1 h6] at h; cases h
    by_cases h0 : l.head? = some false
    · rw [dec_often h1 h6 h0] at h
      obtain ⟨r, hr, rfl⟩ := Option.map_eq_some_iff.1 h
      obtain ⟨j, hj, hd⟩ := ih _ (by simp only [List.length_drop]; omega) (l.drop 6) rfl r hr
      refine ⟨j, hj, ?_⟩
      match l, h0 with
      | b :: q, h0 =>
        have hb : b = false := by simpa using h0
        subst hb
        simp only [List.length_cons] at h6
        have hq : (q.take 5).length = 5 := by rw [List.length_take]; omega
        have hlt := val_lt (q.take 5)
        rw [hq] at hlt
        have hk : often[val (q.take 5)]? = some (often.getD (val (q.take 5)) 0) := by
          simp only [List.getD]
          rw [List.getElem?_eq_getElem (by simpa [often] using hlt)]
          rfl
        have hi := oidx_often hk
        have hcw : cw (often.getD (val (q.take 5)) 0) = false :: q.take 5 := by
          obtain ⟨k, hk2, _, hcw, _⟩ := cw_often (show 0 ≤ oidx (often.getD (val (q.take 5)) 0) by rw [hi]; omega)
          have : k = val (q.take 5) := by rw [hi] at hk2; omega
          subst this
          rw [hcw]
          have := bitsOf_val (q.take 5)
          rw [hq] at this
          rw [this]
        show false :: q = _
        rw [List.drop_succ_cons, List.drop_zero, encBits_cons, hcw, List.append_assoc, ← hd]
        rw [List.drop_succ_cons, List.cons_append, List.take_append_drop]
    by_cases h9 : l.length < 9
    · rw [dec_cut h1 h6 h0 h9] at h; cases h
    by_cases hi : 0 ≤ oidx (UInt8.ofNat (val ((l.drop 1).take 8)))
    · rw [dec_bad h9 h0 hi] at h; cases h
    rw [dec_rare h9 h0 hi] at h
    obtain ⟨r, hr, rfl⟩ := Option.map_eq_some_iff.1 h
    obtain ⟨j, hj, hd⟩ := ih _ (by simp only [List.length_drop]; omega) (l.drop 9) rfl r hr
    refine ⟨j, hj, ?_⟩
    match l, h0 with
    | [], _ => simp at h9
    | b :: q, h0 =>
      have hb : b = true := by
        cases b
        · simp at h0
        · rfl
      subst hb
      simp only [List.length_cons] at h9
      simp only [List.drop_succ_cons, List.drop_zero] at hi ⊢
      have hq : (q.take 8).length = 8 := by rw [List.length_take]; omega
      have hlt := val_lt (q.take 8)
      rw [hq] at hlt
      have hcw := cw_rare hi
      have e : (UInt8.ofNat (val (q.take 8))).toNat = val (q.take 8) := by
        simp only [UInt8.toNat_ofNat']
        omega
      have hb := bitsOf_val (q.take 8)
      rw [hq] at hb
      rw [e, hb] at hcw
      rw [encBits_cons, hcw, List.append_assoc, ← hd]
      rw [List.drop_succ_cons, List.cons_append, List.take_append_drop]
/-- The text of bytes. -/
def decode (b : List UInt8) : Option (List UInt8) := dec (unpack b)
theorem decode_enc (s : List UInt8) : decode (enc s) = some s := by
  unfold decode enc
  rw [unpack_pack _ (padded_length _).1]
  exact dec_enc s _ (by unfold fill; omega)
theorem enc_decode (b s : List UInt8) (h : decode b = some s) : enc s = b := by
  obtain ⟨j, hj, hl⟩ := dec_inv _ (unpack b) rfl s h
  have hlen := unpack_length b
  rw [hl, List.length_append, List.length_replicate] at hlen
  have hf : fill (encBits s).length = j := by unfold fill; omega
  rw [enc, padded, hf, ← hl, pack_unpack]
end Go.Proofs.Ytkbbkamnmdeagaa
