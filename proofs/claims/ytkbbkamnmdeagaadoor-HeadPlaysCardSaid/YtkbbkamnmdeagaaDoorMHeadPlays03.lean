/-
  Plain law: tables of fields: what lets go, what is added, what is found. Nothing of the program.
  Plain law: texts and lists of fields as bytes, and back. Nothing of the program.
  append at []byte in this program: one byte just laid; any bytes that are read. No condition but the bound on the length.
  Bits of small numbers, in the model's words. Nothing of the program.
-/
import Derived.Test.YtkbbkamnmdeagaaDoorMHeadPlays01
import Derived.Test.YtkbbkamnmdeagaaDoorMHeadPlays02
import Derived.Laws.BitsAllLaws
namespace Go.Proofs.YtkbbkamnmdeagaaDoor

abbrev Fld := List UInt8 × List UInt8
/-- The size of a field, the weight of fields. -/
def fsz (f : Fld) : Nat := f.1.length + f.2.length + 32
def wt : List Fld → Nat
  | [] => 0
  | f :: l => fsz f + wt l
theorem wt_nil : wt [] = 0 := rfl
theorem wt_cons (f : Fld) (l : List Fld) : wt (f :: l) = fsz f + wt l := rfl
theorem fsz_pos (f : Fld) : 32 ≤ fsz f := by unfold fsz; omega
theorem wt_append (a b : List Fld) : wt (a ++ b) = wt a + wt b := by
  induction a with
  | nil => simp [wt]
  | cons f l ih => simp only [List.cons_append, wt, ih]; omega
theorem wt_take_succ (l : List Fld) (k : Nat) (h : k < l.length) : wt (l.take (k + 1)) = wt (l.take k) + fsz l[k] := by
  rw [List.take_succ_eq_append_getElem h, wt_append]
  simp [wt]
theorem wt_take_le (l : List Fld) (k : Nat) : wt (l.take k) ≤ wt l := by
  have h := wt_append (l.take k) (l.drop k)
  rw [List.take_append_drop] at h
  omega
theorem wt_len (l : List Fld) : 32 * l.length ≤ wt l := by
  induction l with
  | nil => simp [wt]
  | cons f l ih =>
    have := fsz_pos f
    simp only [wt, List.length_cons]
    omega
theorem fsz_le_wt (l : List Fld) (k : Nat) (h : k < l.length) : fsz l[k] ≤ wt l := by
  have h1 := wt_take_succ l k h
  have h2 := wt_take_le l (k + 1)
  omega

/-- How many stay, and what stays: the newest, no more than so much. -/
def shrN (most : Nat) (xs : List Fld) : Nat → Nat
  | 0 => 0
  | n + 1 => if wt (xs.take (n + 1)) ≤ most then n + 1 else shrN most xs n
def shr (most : Nat) (xs : List Fld) : List Fld := xs.take (shrN most xs xs.length)
theorem shrN_zero (most : Nat) (xs : List Fld) : shrN most xs 0 = 0 := rfl
theorem shrN_stay {most : Nat} {xs : List Fld} {n : Nat} (h : wt (xs.take n) ≤ most) : shrN most xs n = n := by
  cases n with
  | zero => rfl
  | succ n => simp [shrN, h]
theorem shrN_go {most : Nat} {xs : List Fld} {n : Nat} (h : ¬ wt (xs.take (n + 1)) ≤ most) : shrN most xs (n + 1) = shrN most xs n := by simp [shrN, h]
theorem shrN_le (most : Nat) (xs : List Fld) (n : Nat) : shrN most xs n ≤ n := by
  induction n with
  | zero => simp [shrN]
  | succ n ih =>
    unfold shrN
    split <;> omega
theorem shrN_wt (most : Nat) (xs : List Fld) (n : Nat) : wt (xs.take (shrN most xs n)) ≤ most := by
  induction n with
  | zero => simp [shrN, wt]
  | succ n ih =>
    unfold shrN
    split
    · assumption
    · exact ih
theorem wt_shr (most : Nat) (xs : List Fld) : wt (shr most xs) ≤ most := shrN_wt most xs xs.length
theorem shr_of_le {most : Nat} {xs : List Fld} (h : wt xs ≤ most) : shr most xs = xs := by
  unfold shr
  rw [shrN_stay (by rw [List.take_of_length_le (Nat.le_refl _)]; exact h), List.take_of_length_le (Nat.le_refl _)]
theorem shr_zero (xs : List Fld) : shr 0 xs = [] := by
  have h := wt_shr 0 xs
  have h2 := wt_len (shr 0 xs)
  exact List.eq_nil_of_length_eq_zero (by omega)
theorem shr_len (most : Nat) (xs : List Fld) : (shr most xs).length ≤ xs.length := by
  unfold shr
  rw [List.length_take]
  omega

/-- What lies in a table behind an add. -/
def tAdd (max : Nat) (xs : List Fld) (f : Fld) : List Fld := if max < fsz f then [] else f :: shr (max - fsz f) xs
theorem tAdd_no {max : Nat} {xs : List Fld} {f : Fld} (h : max < fsz f) : tAdd max xs f = [] := by rw [tAdd, if_pos h]
theorem tAdd_yes {max : Nat} {xs : List Fld} {f : Fld} (h : ¬ max < fsz f) : tAdd max xs f = f :: shr (max - fsz f) xs := by rw [tAdd, if_neg h]
theorem wt_tAdd (max : Nat) (xs : List Fld) (f : Fld) : wt (tAdd max xs f) ≤ max := by
  unfold tAdd
  split
  · simp [wt]
  · have := wt_shr (max - fsz f) xs
    simp only [wt]
    omega

/-- The fields that have numbers from the beginning on. -/
def alw : List Fld := [([58, 109, 101, 116, 104, 111, 100], [71, 69, 84]), ([58, 109, 101, 116, 104, 111, 100], [80, 79, 83, 84]), ([58, 112, 97, 116, 104], [47]), ([58, 104, 111, 115, 116], []), ([58, 99, 111, 100, 101], [50, 48, 48]), ([58, 99, 111, 100, 101], [52, 48, 52]), ([108, 101, 110, 103, 116, 104], []), ([116, 121, 112, 101], [116, 101, 120, 116]), ([99, 111, 111, 107, 105, 101], []), ([97, 99, 99, 101, 112, 116], [42]), ([100, 97, 116, 101], []), ([115, 101, 114, 118, 101, 114], [])]
theorem alw_len : alw.length = 12 := rfl
def tAll (xs : List Fld) : List Fld := alw ++ xs
theorem tAll_len (xs : List Fld) : (tAll xs).length = 12 + xs.length := by simp [tAll, alw_len]

/-- The number of the first that is so; 0: there is none. -/
def fnd (p : Fld → Bool) : List Fld → Nat
  | [] => 0
  | f :: l => if p f then 1 else if fnd p l = 0 then 0 else fnd p l + 1
theorem fnd_le (p : Fld → Bool) (l : List Fld) : fnd p l ≤ l.length := by
  induction l with
  | nil => simp [fnd]
  | cons f l ih =>
    simp only [fnd, List.length_cons]
    split
    · omega
    · split <;> omega
theorem fnd_snoc (p : Fld → Bool) (l : List Fld) (x : Fld) : fnd p (l ++ [x]) = if fnd p l ≠ 0 then fnd p l else if p x then l.length + 1 else 0 := by
  induction l with
  | nil => simp [fnd]
  | cons f l ih =>
    simp only [List.cons_append, fnd, ih, List.length_cons]
    by_cases h : p f = true
    · simp [h]
    · by_cases h2 : fnd p l = 0
      · by_cases h3 : p x = true
        · simp [h, h2, h3]
        · simp [h, h2, h3]
      · simp [h, h2]
theorem fnd_take_succ (p : Fld → Bool) (l : List Fld) (k : Nat) (h : k < l.length) : fnd p (l.take (k + 1)) = if fnd p (l.take k) ≠ 0 then fnd p (l.take k) else if p l[k] then k + 1 else 0 := by
  rw [List.take_succ_eq_append_getElem h, fnd_snoc, List.length_take, Nat.min_eq_left (by omega)]
/-- From the place i on, by its number in the whole. -/
def bnd (p : Fld → Bool) (l : List Fld) (i : Nat) : Nat := if fnd p (l.drop i) = 0 then 0 else fnd p (l.drop i) + i
theorem bnd_zero (p : Fld → Bool) (l : List Fld) : bnd p l 0 = fnd p l := by
  unfold bnd
  rw [List.drop_zero]
  split <;> omega
theorem bnd_end (p : Fld → Bool) (l : List Fld) : bnd p l l.length = 0 := by simp [bnd, fnd]
theorem fnd_hit {p : Fld → Bool} {f : Fld} (l : List Fld) (h : p f = true) : fnd p (f :: l) = 1 := by simp [fnd, h]
theorem fnd_none {p : Fld → Bool} {f : Fld} {l : List Fld} (h : ¬ p f = true) (h2 : fnd p l = 0) : fnd p (f :: l) = 0 := by simp [fnd, h, h2]
theorem fnd_later {p : Fld → Bool} {f : Fld} {l : List Fld} (h : ¬ p f = true) (h2 : fnd p l ≠ 0) : fnd p (f :: l) = fnd p l + 1 := by simp [fnd, h, h2]
theorem bnd_at (p : Fld → Bool) (l : List Fld) (i : Nat) (h : i < l.length) : bnd p l i = if p l[i] then i + 1 else bnd p l (i + 1) := by
  unfold bnd
  rw [List.drop_eq_getElem_cons h]
  by_cases h1 : p l[i] = true
  · rw [fnd_hit _ h1]
    simp [h1]
    omega
  · by_cases h2 : fnd p (l.drop (i + 1)) = 0
    · rw [fnd_none h1 h2]
      simp [h1, h2]
    · rw [fnd_later h1 h2]
      simp [h1, h2]
      omega
theorem fnd_some {p : Fld → Bool} {l : List Fld} (h : fnd p l ≠ 0) : ∃ hk : fnd p l - 1 < l.length, p l[fnd p l - 1] = true := by
  induction l with
  | nil => simp [fnd] at h
  | cons f l ih =>
    simp only [fnd] at h ⊢
    by_cases h1 : p f = true
    · simp [h1]
    · by_cases h2 : fnd p l = 0
      · simp [h1, h2] at h
      · obtain ⟨hk, hp⟩ := ih h2
        simp only [h1, h2, if_false, List.length_cons, Bool.false_eq_true]
        refine ⟨by omega, ?_⟩
        have e : fnd p l + 1 - 1 = (fnd p l - 1) + 1 := by omega
        simp only [e, List.getElem_cons_succ]
        exact hp
theorem fnd_least {p : Fld → Bool} {l : List Fld} {k : Nat} (hk : k < l.length) (hp : p l[k] = true) : 1 ≤ fnd p l ∧ fnd p l ≤ k + 1 := by
  induction l generalizing k with
  | nil => simp at hk
  | cons f l ih =>
    simp only [fnd]
    by_cases h1 : p f = true
    · simp [h1]
    · cases k with
      | zero => exact absurd hp h1
      | succ k =>
        obtain ⟨a, b⟩ := ih (k := k) (by simpa using hk) (by simpa using hp)
        rw [if_neg h1, if_neg (by omega)]
        omega
theorem fnd_le_of {p q : Fld → Bool} {l : List Fld} (h : ∀ f, p f = true → q f = true) (h0 : fnd p l ≠ 0) : 1 ≤ fnd q l ∧ fnd q l ≤ fnd p l := by
  obtain ⟨hk, hp⟩ := fnd_some h0
  have := fnd_least hk (h _ hp)
  omega
/-- A field, and its name. -/
def isF (f : Fld) : Fld → Bool := fun x => decide (x = f)
def isN (f : Fld) : Fld → Bool := fun x => decide (x.1 = f.1)
end Go.Proofs.YtkbbkamnmdeagaaDoor
namespace Go.Proofs.YtkbbkamnmdeagaaDoor

/-! ### texts -/
/-- What a text's bytes hold behind the number: the text itself, or its code where that is shorter. -/
def txtC (l : List UInt8) : List UInt8 := if l.length ≤ (enc l).length then l else enc l
def txtF (l : List UInt8) : Int := if l.length ≤ (enc l).length then 0 else 128
def txtL (l : List UInt8) : List UInt8 := if 400 < l.length then [] else putL ((txtC l).length : Nat) 7 (txtF l) ++ txtC l
def txtE (l : List UInt8) : Nat := if 400 < l.length then 4 else 0
theorem txtC_le (l : List UInt8) : (txtC l).length ≤ l.length := by
  unfold txtC
  split <;> omega
theorem txt_putOk (l : List UInt8) (h : l.length ≤ 400) : putOk ((txtC l).length : Nat) 7 (txtF l) := by
  have hc := txtC_le l
  unfold putOk txtF
  split <;> simp <;> omega
theorem txt_putE (l : List UInt8) (h : l.length ≤ 400) : putE ((txtC l).length : Nat) 7 (txtF l) = 0 := by
  rw [putE, if_pos (txt_putOk l h)]
theorem txt_putL_len (n : Nat) (f : Int) (h : n ≤ 2147483647) : (putL (n : Nat) 7 f).length ≤ 1000 := by
  unfold putL
  split
  · have := putN_len6 (n : Int).toNat (7 : Int).toNat (by omega) f.toNat
    omega
  · simp
/-- The text that bytes begin with, how many they are; the fault. -/
def readT (l : List UInt8) : List UInt8 × Nat × Nat :=
  if (getV l 7).2.2 ≠ 0 then ([], 0, (getV l 7).2.2)
  else if 400 < (getV l 7).1 then ([], 0, 4)
  else if l.length < (getV l 7).2.1 + (getV l 7).1 then ([], 0, 8)
  else match (if 128 ≤ (l.headD 0).toNat then decode ((l.drop (getV l 7).2.1).take (getV l 7).1) else some ((l.drop (getV l 7).2.1).take (getV l 7).1)) with
    | none => ([], 0, 2)
    | some s => if 400 < s.length then ([], 0, 4) else if txtL s = l.take ((getV l 7).2.1 + (getV l 7).1) then (s, (getV l 7).2.1 + (getV l 7).1, 0) else ([], 0, 2)

theorem putN_cons (n t f : Nat) : ∃ r, putN n t f = UInt8.ofNat (f + if n < 2 ^ t - 1 then n else 2 ^ t - 1) :: r ∧ putN n t 0 = UInt8.ofNat (if n < 2 ^ t - 1 then n else 2 ^ t - 1) :: r := by
  by_cases h : n < 2 ^ t - 1
  · exact ⟨[], by simp [putN, h], by simp [putN, h]⟩
  · exact ⟨cont (n - (2 ^ t - 1)), by simp [putN, h], by simp [putN, h]⟩
theorem high_low (t f m : Nat) (ht : 1 ≤ t) (ht8 : t ≤ 8) (hf : f % 2 ^ t = 0) (hf2 : f ≤ 255) (hm : m < 2 ^ t) : f + m < 256 ∧ (f + m) % 2 ^ t = m := by
  rcases (by omega : t = 1 ∨ t = 2 ∨ t = 3 ∨ t = 4 ∨ t = 5 ∨ t = 6 ∨ t = 7 ∨ t = 8) with rfl | rfl | rfl | rfl | rfl | rfl | rfl | rfl <;> simp at * <;> omega
theorem getV_low {c d : UInt8} (r : List UInt8) (t : Int) (h : c.toNat % 2 ^ t.toNat = d.toNat % 2 ^ t.toNat) : getV (c :: r) t = getV (d :: r) t := by
  simp only [getV, h]
/-- A number behind the high bits of a byte is read, whatever stands behind it; the first byte. -/
theorem getV_high (n t f : Nat) (b : List UInt8) (ht : 1 ≤ t) (ht8 : t ≤ 8) (hn : n ≤ 2147483647) (hf : f % 2 ^ t = 0) (hf2 : f ≤ 255) :
    getV (putN n t f ++ b) (t : Int) = (n, (putN n t f).length, 0) ∧ f ≤ ((putN n t f ++ b).headD 0).toNat ∧ ((putN n t f ++ b).headD 0).toNat < f + 2 ^ t ∧ putN n t f ≠ [] := by
  obtain ⟨r, h1, h2⟩ := putN_cons n t f
  have hp := pow2_bounds ht ht8
  have hg := getV_put n t b ht ht8 hn
  have hl : (putN n t 0).length = (putN n t f).length := by rw [h1, h2]; rfl
  obtain ⟨m, hm⟩ : ∃ m, (if n < 2 ^ t - 1 then n else 2 ^ t - 1) = m := ⟨_, rfl⟩
  have hm2 : m < 2 ^ t := by
    rw [← hm]
    split <;> omega
  rw [hm] at h1 h2
  obtain ⟨e1, e2⟩ := high_low t f m ht ht8 hf hf2 hm2
  have t1 := toNat_ofNat_lt e1
  have t2 := toNat_ofNat_lt (show m < 256 by omega)
  refine ⟨?_, ?_, ?_, by rw [h1]; simp⟩
  · rw [← hl, ← hg, h1, h2]
    simp only [List.cons_append]
    refine getV_low _ _ ?_
    rw [Int.toNat_natCast, t1, t2, e2, Nat.mod_eq_of_lt hm2]
  · rw [h1, List.cons_append, List.headD_cons, t1]
    omega
  · rw [h1, List.cons_append, List.headD_cons, t1]
    omega

theorem txtL_ok (s : List UInt8) (h : s.length ≤ 400) : txtL s = putN (txtC s).length 7 (txtF s).toNat ++ txtC s := by
  have hk := txt_putOk s h
  unfold txtL
  rw [if_neg (by omega), putL, if_pos hk]
  rfl
/-- EVERY TEXT COMES BACK, whatever stands behind it. -/
theorem readT_txt (s b : List UInt8) (h : s.length ≤ 400) : readT (txtL s ++ b) = (s, (txtL s).length, 0) := by
  have hC := txtC_le s
  have hk := txtL_ok s h
  have hF : (txtF s).toNat % 2 ^ 7 = 0 ∧ (txtF s).toNat ≤ 255 := by
    unfold txtF
    split <;> simp
  obtain ⟨g1, g2, g3, _⟩ := getV_high (txtC s).length 7 (txtF s).toNat (txtC s ++ b) (by omega) (by omega) (by omega) hF.1 hF.2
  have e : txtL s ++ b = putN (txtC s).length 7 (txtF s).toNat ++ (txtC s ++ b) := by rw [hk, List.append_assoc]
  have hlen : (txtL s).length = (putN (txtC s).length 7 (txtF s).toNat).length + (txtC s).length := by rw [hk, List.length_append]
  have g1' : getV (txtL s ++ b) 7 = ((txtC s).length, (putN (txtC s).length 7 (txtF s).toNat).length, 0) := by rw [e]; exact g1
  have hd : ((txtL s ++ b).drop (putN (txtC s).length 7 (txtF s).toNat).length).take (txtC s).length = txtC s := by
    rw [e, List.drop_left, List.take_left]
  have ht : (txtL s ++ b).take ((putN (txtC s).length 7 (txtF s).toNat).length + (txtC s).length) = txtL s := by
    rw [← hlen, List.take_left]
  rw [← e] at g2 g3
  unfold readT
  simp only [g1', hd, ht]
  rw [if_neg (by simp), if_neg (by omega), if_neg (by rw [List.length_append]; omega)]
  by_cases hle : s.length ≤ (enc s).length
  · have hFz : (txtF s).toNat = 0 := by simp [txtF, hle]
    have hCs : txtC s = s := by simp [txtC, hle]
    rw [if_neg (by omega)]
    rw [hCs] at hlen ⊢
    simp only
    rw [if_neg (by omega), if_pos trivial, hlen]
  · have hFz : (txtF s).toNat = 128 := by simp [txtF, hle]
    have hCs : txtC s = enc s := by simp [txtC, hle]
    rw [if_pos (by omega), hCs, decode_enc]
    simp only
    rw [if_neg (by omega), if_pos trivial, hlen, hCs]
/-- What is read takes at least a byte, and no more than there are. -/
theorem getV_used {l : List UInt8} {t : Int} (h : (getV l t).2.2 = 0) : 1 ≤ (getV l t).2.1 ∧ (getV l t).2.1 ≤ l.length ∧ (getV l t).1 ≤ 2147483647 := by
  match l, h with
  | [], h =>
    simp only [getV] at h
    split at h <;> simp at h
  | c :: r, h =>
    obtain ⟨N, U, hV⟩ : ∃ N U, getV (c :: r) t = (N, U, 0) := ⟨_, _, by rw [← h]⟩
    obtain ⟨_, _, hN, hU, hU2, _⟩ := put_getV c r t N U hV
    rw [hV]
    exact ⟨hU, by simpa using hU2, hN⟩
theorem readT_used {l : List UInt8} (h : (readT l).2.2 = 0) : 1 ≤ (readT l).2.1 ∧ (readT l).2.1 ≤ l.length ∧ (readT l).1.length ≤ 400 := by
  unfold readT at h ⊢
  by_cases h1 : (getV l 7).2.2 ≠ 0
  · rw [if_pos h1] at h
    exact absurd h h1
  have hu := getV_used (Decidable.not_not.1 h1)
  rw [if_neg h1] at h ⊢
  by_cases h2 : 400 < (getV l 7).1
  · rw [if_pos h2] at h; simp at h
  rw [if_neg h2] at h ⊢
  by_cases h3 : l.length < (getV l 7).2.1 + (getV l 7).1
  · rw [if_pos h3] at h; simp at h
  rw [if_neg h3] at h ⊢
  split at h
  · simp at h
  · rename_i s hs
    by_cases h4 : 400 < s.length
    · rw [if_pos h4] at h; simp at h
    rw [if_neg h4] at h ⊢
    by_cases h5 : txtL s = l.take ((getV l 7).2.1 + (getV l 7).1)
    · rw [if_pos h5]
      simp only
      exact ⟨by omega, by omega, by omega⟩
    · rw [if_neg h5] at h; simp at h

/-! ### lists of fields: said -/
/-- One field: its bytes; the table behind it. -/
def saidF (_mx : Nat) (xs : List Fld) (f : Fld) : List UInt8 :=
  if fnd (isF f) (tAll xs) ≠ 0 then putL (fnd (isF f) (tAll xs) : Nat) 7 128
  else putL (fnd (isN f) (tAll xs) : Nat) 6 64 ++ (if fnd (isN f) (tAll xs) = 0 then txtL f.1 else []) ++ txtL f.2
def nextF (mx : Nat) (xs : List Fld) (f : Fld) : List Fld := if fnd (isF f) (tAll xs) ≠ 0 then xs else tAdd mx xs f
def saidL (mx : Nat) : List Fld → List Fld → List UInt8
  | _, [] => []
  | xs, f :: l => saidF mx xs f ++ saidL mx (nextF mx xs f) l
def nextL (mx : Nat) : List Fld → List Fld → List Fld
  | xs, [] => xs
  | xs, f :: l => nextL mx (nextF mx xs f) l
def leastP (p : Nat) (r : List Nat) : Nat := r.foldl min p
def saidP : List Nat → List UInt8
  | [] => []
  | p :: r => putL (leastP p r : Nat) 5 32 ++ (if leastP p r < (p :: r).getLast (by simp) then putL ((p :: r).getLast (by simp) : Nat) 5 32 else [])
/-- There would be more than may be. -/
def tooMuch (l : List Fld) : Bool := decide (40 < l.length) || decide (2000 < wt l)
def tooLong (l : List Fld) : Bool := l.any fun f => decide (400 < f.1.length) || decide (400 < f.2.length)
def saidE (l : List Fld) : Nat := if tooMuch l || tooLong l then 4 else 0

/-! ### lists of fields: heard -/
def litV (xs : List Fld) (b : List UInt8) (t : Int) : Fld × Nat × Nat :=
  if (getV b t).2.2 ≠ 0 then (([], []), 0, (getV b t).2.2)
  else if 12 + xs.length < (getV b t).1 then (([], []), 0, 5)
  else if 0 < (getV b t).1 then
    if (readT (b.drop (getV b t).2.1)).2.2 ≠ 0 then (([], []), 0, (readT (b.drop (getV b t).2.1)).2.2)
    else ((((tAll xs).getD ((getV b t).1 - 1) ([], [])).1, (readT (b.drop (getV b t).2.1)).1), (getV b t).2.1 + (readT (b.drop (getV b t).2.1)).2.1, 0)
  else if (readT (b.drop (getV b t).2.1)).2.2 ≠ 0 then (([], []), 0, (readT (b.drop (getV b t).2.1)).2.2)
  else if (readT (b.drop ((getV b t).2.1 + (readT (b.drop (getV b t).2.1)).2.1))).2.2 ≠ 0 then (([], []), 0, (readT (b.drop ((getV b t).2.1 + (readT (b.drop (getV b t).2.1)).2.1))).2.2)
  else (((readT (b.drop (getV b t).2.1)).1, (readT (b.drop ((getV b t).2.1 + (readT (b.drop (getV b t).2.1)).2.1))).1),
    (getV b t).2.1 + (readT (b.drop (getV b t).2.1)).2.1 + (readT (b.drop ((getV b t).2.1 + (readT (b.drop (getV b t).2.1)).2.1))).2.1, 0)
/-- One step behind a piece that is read: fault, table, its greatest size, fields, bytes. -/
structure Step where
  e : Nat
  xs : List Fld
  mx : Nat
  l : List Fld
  n : Nat
def pushF (xs : List Fld) (mx : Nat) (l : List Fld) (f : Fld) (n : Nat) : Step := if tooMuch (l ++ [f]) then ⟨4, xs, mx, [], 0⟩ else ⟨0, xs, mx, l ++ [f], n⟩
def heardS (most : Nat) (xs : List Fld) (mx : Nat) (l : List Fld) (b : List UInt8) : Step :=
  if 128 ≤ (b.headD 0).toNat then
    if (getV b 7).2.2 ≠ 0 then ⟨(getV b 7).2.2, xs, mx, [], 0⟩
    else if (getV b 7).1 < 1 ∨ 12 + xs.length < (getV b 7).1 then ⟨5, xs, mx, [], 0⟩
    else pushF xs mx l ((tAll xs).getD ((getV b 7).1 - 1) ([], [])) (getV b 7).2.1
  else if 64 ≤ (b.headD 0).toNat then
    if (litV xs b 6).2.2 ≠ 0 then ⟨(litV xs b 6).2.2, xs, mx, [], 0⟩ else pushF (tAdd mx xs (litV xs b 6).1) mx l (litV xs b 6).1 (litV xs b 6).2.1
  else if 32 ≤ (b.headD 0).toNat then
    if (getV b 5).2.2 ≠ 0 then ⟨(getV b 5).2.2, xs, mx, [], 0⟩
    else if most < (getV b 5).1 then ⟨1, xs, mx, [], 0⟩
    else if 0 < l.length then ⟨6, xs, mx, [], 0⟩
    else ⟨0, shr (getV b 5).1 xs, (getV b 5).1, l, (getV b 5).2.1⟩
  else if (litV xs b 4).2.2 ≠ 0 then ⟨(litV xs b 4).2.2, xs, mx, [], 0⟩ else pushF xs mx l (litV xs b 4).1 (litV xs b 4).2.1
def heard (most : Nat) (xs : List Fld) (mx : Nat) (l : List Fld) (b : List UInt8) : Step :=
  if b = [] then ⟨0, xs, mx, l, 0⟩
  else if (heardS most xs mx l b).e ≠ 0 then heardS most xs mx l b
  else if _hn : (heardS most xs mx l b).n = 0 ∨ b.length < (heardS most xs mx l b).n then ⟨0, xs, mx, l, 0⟩
  else heard most (heardS most xs mx l b).xs (heardS most xs mx l b).mx (heardS most xs mx l b).l (b.drop (heardS most xs mx l b).n)
termination_by b.length
decreasing_by
  rw [List.length_drop]
  omega
theorem litV_used {xs : List Fld} {b : List UInt8} {t : Int} (h : (litV xs b t).2.2 = 0) : 1 ≤ (litV xs b t).2.1 ∧ (litV xs b t).2.1 ≤ b.length := by
  unfold litV at h ⊢
  by_cases h1 : (getV b t).2.2 ≠ 0
  · rw [if_pos h1] at h
    exact absurd h h1
  have hu := getV_used (Decidable.not_not.1 h1)
  rw [if_neg h1] at h ⊢
  by_cases h2 : 12 + xs.length < (getV b t).1
  · rw [if_pos h2] at h; simp at h
  rw [if_neg h2] at h ⊢
  by_cases h3 : (readT (b.drop (getV b t).2.1)).2.2 ≠ 0
  · rw [if_pos h3, if_pos h3] at h
    split at h <;> exact absurd h h3
  have hu2 := readT_used (Decidable.not_not.1 h3)
  rw [List.length_drop] at hu2
  rw [if_neg h3, if_neg h3] at h ⊢
  by_cases h4 : 0 < (getV b t).1
  · rw [if_pos h4]
    simp only
    omega
  rw [if_neg h4] at h ⊢
  by_cases h5 : (readT (b.drop ((getV b t).2.1 + (readT (b.drop (getV b t).2.1)).2.1))).2.2 ≠ 0
  · rw [if_pos h5] at h
    exact absurd h h5
  have hu3 := readT_used (Decidable.not_not.1 h5)
  rw [List.length_drop] at hu3
  rw [if_neg h5]
  simp only
  omega
theorem pushF_e (xs : List Fld) (mx : Nat) (l : List Fld) (f : Fld) (n : Nat) (h : (pushF xs mx l f n).e = 0) : (pushF xs mx l f n).n = n := by
  unfold pushF at h ⊢
  split at h
  · simp at h
  · rename_i h1
    rw [if_neg h1]
theorem heardS_used {most : Nat} {xs : List Fld} {mx : Nat} {l : List Fld} {b : List UInt8} (h : (heardS most xs mx l b).e = 0) : 1 ≤ (heardS most xs mx l b).n ∧ (heardS most xs mx l b).n ≤ b.length := by
  unfold heardS at h ⊢
  by_cases c1 : 128 ≤ (b.headD 0).toNat
  · rw [if_pos c1] at h ⊢
    by_cases h1 : (getV b 7).2.2 ≠ 0
    · rw [if_pos h1] at h; exact absurd h h1
    have hu := getV_used (Decidable.not_not.1 h1)
    rw [if_neg h1] at h ⊢
    by_cases h2 : (getV b 7).1 < 1 ∨ 12 + xs.length < (getV b 7).1
    · rw [if_pos h2] at h; simp at h
    rw [if_neg h2] at h ⊢
    rw [pushF_e _ _ _ _ _ h]
    omega
  rw [if_neg c1] at h ⊢
  by_cases c2 : 64 ≤ (b.headD 0).toNat
  · rw [if_pos c2] at h ⊢
    by_cases h1 : (litV xs b 6).2.2 ≠ 0
    · rw [if_pos h1] at h; exact absurd h h1
    rw [if_neg h1] at h ⊢
    rw [pushF_e _ _ _ _ _ h]
    exact litV_used (Decidable.not_not.1 h1)
  rw [if_neg c2] at h ⊢
  by_cases c3 : 32 ≤ (b.headD 0).toNat
  · rw [if_pos c3] at h ⊢
    by_cases h1 : (getV b 5).2.2 ≠ 0
    · rw [if_pos h1] at h; exact absurd h h1
    have hu := getV_used (Decidable.not_not.1 h1)
    rw [if_neg h1] at h ⊢
    by_cases h2 : most < (getV b 5).1
    · rw [if_pos h2] at h; simp at h
    rw [if_neg h2] at h ⊢
    by_cases h3 : 0 < l.length
    · rw [if_pos h3] at h; simp at h
    rw [if_neg h3]
    exact ⟨hu.1, hu.2.1⟩
  rw [if_neg c3] at h ⊢
  by_cases h1 : (litV xs b 4).2.2 ≠ 0
  · rw [if_pos h1] at h; exact absurd h h1
  rw [if_neg h1] at h ⊢
  rw [pushF_e _ _ _ _ _ h]
  exact litV_used (Decidable.not_not.1 h1)
theorem heard_nil (most : Nat) (xs : List Fld) (mx : Nat) (l : List Fld) : heard most xs mx l [] = ⟨0, xs, mx, l, 0⟩ := by rw [heard, if_pos rfl]
theorem heard_fault {most : Nat} {xs : List Fld} {mx : Nat} {l : List Fld} {b : List UInt8} (hb : b ≠ []) (h : (heardS most xs mx l b).e ≠ 0) : heard most xs mx l b = heardS most xs mx l b := by
  rw [heard, if_neg hb, if_pos h]
theorem heard_next {most : Nat} {xs : List Fld} {mx : Nat} {l : List Fld} {b : List UInt8} (hb : b ≠ []) (h : (heardS most xs mx l b).e = 0) :
    heard most xs mx l b = heard most (heardS most xs mx l b).xs (heardS most xs mx l b).mx (heardS most xs mx l b).l (b.drop (heardS most xs mx l b).n) := by
  have hu := heardS_used h
  rw [heard, if_neg hb, if_neg (by omega), dif_neg (by omega)]
end Go.Proofs.YtkbbkamnmdeagaaDoor
namespace Go.Proofs.YtkbbkamnmdeagaaDoor
open Go.RowKit

theorem u8_info : (Tryd.prog.info? 5).map (fun i => (i.zero, i.size, i.bytes)) = some (some (.int .u8 0), 1, 1) := by kernel_rfl

/-- 'append(v, x)', x just laid. -/
theorem wpList_push {ops : Array Oper} {rest : List Oper} {o : Oper} {a : Act} {Q : Exit → Act → World → Prop} {w : World} {u : Value} (hgd : o.guard = none) (s x : Operand)
    (ho : o.op = .call { callee := .builtin .append, args := #[s, x], argTypes := #[22, 22] })
    (base : Nat) (v : Value) (n : Nat) (xs : List Value) (hs : a.eval s = v) (hown : w.ownsRow base 5 1 v n xs)
    (hx : a.eval x = .slice (some ⟨w.heap.size, 0, none⟩) 1 1) (h1 : u.oneCell' = true) (hn : n + 1 ≤ 140737488355328) (hbase : base ≤ w.heap.size)
    (h : ∀ v' w', w'.ownsRow base 5 1 v' (n + 1) (xs ++ [u]) → Below base w w' → wpList Tryd.prog ops Q rest (a.put o.dst v') w') : wpList Tryd.prog ops Q (o :: rest) a (w.alloc (.cells #[u] 5)) := by
  obtain ⟨i0, hi, hz0, hz1, hz2⟩ := info_parts u8_info
  refine wpList_append_own _ hgd s x 22 ho base 5 i0 (.int .u8 0) 1 1 Tryd.underlying22 hi hz0 hz1 hz2 rfl (by decide) v n xs hs (hown.alloc _) ⟨w.heap.size, 0, none⟩ 1 1 [u] hx rfl (cell_one_new _ _ _) (by simpa using h1) (by simp only [maxLen]; omega) (by omega) (by simp; omega) ?_
  intro v' w' hown' hg _
  exact h v' w' hown' (below_append ((Below.refl _ _).alloc hbase _) (hown.alloc _) hg (by simp; omega))

/-- 'append(v, xs...)', xs bytes that are read (of nil too). -/
theorem wpList_join {ops : Array Oper} {rest : List Oper} {o : Oper} {a : Act} {Q : Exit → Act → World → Prop} {w : World} (hgd : o.guard = none) (s x : Operand)
    (ho : o.op = .call { callee := .builtin .append, args := #[s, x], argTypes := #[22, 22] })
    (base : Nat) (v : Value) (n : Nat) (xs : List Value) (hs : a.eval s = v) (hown : w.ownsRow base 5 1 v n xs)
    (B : Nat) (A : Option Addr) (m c : Nat) (news : List Value) (hx : a.eval x = .slice A m c) (hr : Reads w B 1 A m news) (h1 : ∀ u ∈ news, u.oneCell' = true) (hn : n + m ≤ 140737488355328) (hbase : base ≤ w.heap.size)
    (h : ∀ v' w', w'.ownsRow base 5 1 v' (n + m) (xs ++ news) → Below base w w' → wpList Tryd.prog ops Q rest (a.put o.dst v') w') : wpList Tryd.prog ops Q (o :: rest) a w := by
  obtain ⟨i0, hi, hz0, hz1, hz2⟩ := info_parts u8_info
  refine wpList_append_any _ hgd s x 22 ho base 5 i0 (.int .u8 0) 1 1 Tryd.underlying22 hi hz0 hz1 hz2 rfl (by decide) v n xs hs hown B A m c news hx hr h1 (by simp only [maxLen]; omega) (by omega) hbase ?_
  intro v' w' hown' hg _
  exact h v' w' hown' (below_append (Below.refl _ _) hown hg hbase)
theorem own_new (w : World) (C : Array Value) (e : TypeId) (xs : List Value) (n : Nat) (h : C.toList = xs) (hn : xs.length = n) (hm : n ≤ maxLen) :
    (w.alloc (.cells C e)).ownsRow w.heap.size e 1 (.slice (some ⟨w.heap.size, 0, none⟩) n n) n xs := by
  have hC : C.size = n := by rw [← hn, ← h]; simp
  exact ⟨by omega, .inr ⟨w.heap.size, n, C, rfl, Nat.le_refl _, heap_alloc_new w _, Nat.le_refl _, hm, by omega, by rw [h, ← hn]; simp⟩⟩
end Go.Proofs.YtkbbkamnmdeagaaDoor
namespace Go.Proofs.YtkbbkamnmdeagaaDoor
open Go.RowKit

theorem ofInt64 (a : Nat) (ha : a < 9223372036854775808) : (BitVec.ofInt 64 (a : Int)).toNat = a := by
  rw [BitVec.ofInt_natCast, BitVec.toNat_ofNat]; exact Nat.mod_eq_of_lt (by omega)
theorem ofInt8 (a : Nat) (ha : a < 256) : (BitVec.ofInt 8 (a : Int)).toNat = a := by
  rw [BitVec.ofInt_natCast, BitVec.toNat_ofNat]; exact Nat.mod_eq_of_lt (by omega)
/-- 'x & (2^t - 1)' is the remainder by 2^t. -/
theorem i64_mask (x t : Nat) (hx : x < 4611686018427387904) (ht : t ≤ 61) : bits .and .i64 (x : Int) ((2 ^ t : Nat) - 1) = ((x % 2 ^ t : Nat) : Int) := by
  have hp : 2 ^ t ≤ 2 ^ 61 := Nat.pow_le_pow_right (by omega) ht
  have hp1 : 1 ≤ 2 ^ t := Nat.one_le_two_pow
  have e : ((2 ^ t : Nat) : Int) - 1 = ((2 ^ t - 1 : Nat) : Int) := by omega
  rw [e]
  show IntKind.i64.wrap ((BitVec.ofInt 64 (x : Int) &&& BitVec.ofInt 64 ((2 ^ t - 1 : Nat) : Int)).toNat : Int) = _
  rw [BitVec.toNat_and, ofInt64 x (by omega), ofInt64 _ (by omega), Nat.and_two_pow_sub_one_eq_mod, IntKind.wrap_i64]
  have := Nat.mod_lt x (show 0 < 2 ^ t by omega)
  omega
/-- 'x | y' where y fits below x's last bit that is set. -/
theorem i64_or_low (x y t : Nat) (hx : x * 2 ^ t < 4611686018427387904) (hy : y < 2 ^ t) (ht : t ≤ 61) : bits .or .i64 ((x * 2 ^ t : Nat) : Int) (y : Int) = ((x * 2 ^ t + y : Nat) : Int) := by
  have hp : 2 ^ t ≤ 2 ^ 61 := Nat.pow_le_pow_right (by omega) ht
  show IntKind.i64.wrap ((BitVec.ofInt 64 ((x * 2 ^ t : Nat) : Int) ||| BitVec.ofInt 64 (y : Int)).toNat : Int) = _
  rw [BitVec.toNat_or, ofInt64 _ (by omega), ofInt64 y (by omega)]
  have h3 : x * 2 ^ t ||| y = x * 2 ^ t + y := by
    have := Nat.shiftLeft_add_eq_or_of_lt hy x
    rw [show x * 2 ^ t = x <<< t from by rw [Nat.shiftLeft_eq]]
    exact this.symm
  rw [h3, IntKind.wrap_i64]
  omega
theorem u8_mask7 (y : Nat) (h : y < 256) : bits .and .u8 (y : Int) 127 = ((y % 128 : Nat) : Int) := by
  have h1 : (127 : Int) = ((2 ^ 7 - 1 : Nat) : Int) := by decide
  rw [h1]
  show IntKind.u8.wrap ((BitVec.ofInt 8 (y : Int) &&& BitVec.ofInt 8 ((2 ^ 7 - 1 : Nat) : Int)).toNat : Int) = _
  rw [BitVec.toNat_and, ofInt8 y h, ofInt8 _ (by decide), Nat.and_two_pow_sub_one_eq_mod, IntKind.wrap_u8]
  omega
theorem u8_or_high (y : Nat) (h : y < 256) : bits .or .u8 (y : Int) 128 = ((y % 128 + 128 : Nat) : Int) := by
  have h1 : (128 : Int) = ((128 : Nat) : Int) := by decide
  rw [h1]
  show IntKind.u8.wrap ((BitVec.ofInt 8 (y : Int) ||| BitVec.ofInt 8 ((128 : Nat) : Int)).toNat : Int) = _
  rw [BitVec.toNat_or, ofInt8 y h, ofInt8 _ (by decide), IntKind.wrap_u8]
  have hall : ∀ y : Fin 256, y.val ||| 128 = y.val % 128 + 128 := by decide +kernel
  rw [hall ⟨y, h⟩]
  show ((y % 128 + 128 : Nat) : Int) % 256 = _
  omega
end Go.Proofs.YtkbbkamnmdeagaaDoor
