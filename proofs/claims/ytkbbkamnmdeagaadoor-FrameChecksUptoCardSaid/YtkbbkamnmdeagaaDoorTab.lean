/-
  Plain law: tables of fields: what lets go, what is added, what is found. Nothing of the program.
-/
import Derived.Test.YtkbbkamnmdeagaaDoorMem
namespace Go.Proofs.YtkbbkamnmdeagaaDoor

abbrev Fld := List UInt8 × List UInt8
/-- The size of a field, the weight of fields. -/
def fsz (f : Fld) : Nat := f.1.length + f.2.length + 32
def wt : List Fld → Nat
  | [] => 0
  | f :: l => fsz f + wt l
theorem wt_nil : wt [] = 0 := rfl
theorem wt_cons (f : Fld) (l : List Fld) : wt (f :: l) = fsz f + wt l := rfl
theorem fsz_pos (f : Fld) : 32 ≤ fsz f := by unfold fsz; omega
theorem wt_append (a b : List Fld) : wt (a ++ b) = wt a + wt b := by
  induction a with
  | nil => simp [wt]
  | cons f l ih => simp only [List.cons_append, wt, ih]; omega
theorem wt_take_succ (l : List Fld) (k : Nat) (h : k < l.length) : wt (l.take (k + 1)) = wt (l.take k) + fsz l[k] := by
  rw [List.take_succ_eq_append_getElem h, wt_append]
  simp [wt]
theorem wt_take_le (l : List Fld) (k : Nat) : wt (l.take k) ≤ wt l := by
  have h := wt_append (l.take k) (l.drop k)
  rw [List.take_append_drop] at h
  omega
theorem wt_len (l : List Fld) : 32 * l.length ≤ wt l := by
  induction l with
  | nil => simp [wt]
  | cons f l ih =>
    have := fsz_pos f
    simp only [wt, List.length_cons]
    omega
theorem fsz_le_wt (l : List Fld) (k : Nat) (h : k < l.length) : fsz l[k] ≤ wt l := by
  have h1 := wt_take_succ l k h
  have h2 := wt_take_le l (k + 1)
  omega

/-- How many stay, and what stays: the newest, no more than so much. -/
def shrN (most : Nat) (xs : List Fld) : Nat → Nat
  | 0 => 0
  | n + 1 => if wt (xs.take (n + 1)) ≤ most then n + 1 else shrN most xs n
def shr (most : Nat) (xs : List Fld) : List Fld := xs.take (shrN most xs xs.length)
theorem shrN_zero (most : Nat) (xs : List Fld) : shrN most xs 0 = 0 := rfl
theorem shrN_stay {most : Nat} {xs : List Fld} {n : Nat} (h : wt (xs.take n) ≤ most) : shrN most xs n = n := by
  cases n with
  | zero => rfl
  | succ n => simp [shrN, h]
theorem shrN_go {most : Nat} {xs : List Fld} {n : Nat} (h : ¬ wt (xs.take (n + 1)) ≤ most) : shrN most xs (n + 1) = shrN most xs n := by simp [shrN, h]
theorem shrN_le (most : Nat) (xs : List Fld) (n : Nat) : shrN most xs n ≤ n := by
  induction n with
  | zero => simp [shrN]
  | succ n ih =>
    unfold shrN
    split <;> omega
theorem shrN_wt (most : Nat) (xs : List Fld) (n : Nat) : wt (xs.take (shrN most xs n)) ≤ most := by
  induction n with
  | zero => simp [shrN, wt]
  | succ n ih =>
    unfold shrN
    split
    · assumption
    · exact ih
theorem wt_shr (most : Nat) (xs : List Fld) : wt (shr most xs) ≤ most := shrN_wt most xs xs.length
theorem shr_of_le {most : Nat} {xs : List Fld} (h : wt xs ≤ most) : shr most xs = xs := by
  unfold shr
  rw [shrN_stay (by rw [List.take_of_length_le (Nat.le_refl _)]; exact h), List.take_of_length_le (Nat.le_refl _)]
theorem shr_zero (xs : List Fld) : shr 0 xs = [] := by
  have h := wt_shr 0 xs
  have h2 := wt_len (shr 0 xs)
  exact List.eq_nil_of_length_eq_zero (by omega)
theorem shr_len (most : Nat) (xs : List Fld) : (shr most xs).length ≤ xs.length := by
  unfold shr
  rw [List.length_take]
  omega

/-- What lies in a table behind an add. -/
def tAdd (max : Nat) (xs : List Fld) (f : Fld) : List Fld := if max < fsz f then [] else f :: shr (max - fsz f) xs
theorem tAdd_no {max : Nat} {xs : List Fld} {f : Fld} (h : max < fsz f) : tAdd max xs f = [] := by rw [tAdd, if_pos h]
theorem tAdd_yes {max : Nat} {xs : List Fld} {f : Fld} (h : ¬ max < fsz f) : tAdd max xs f = f :: shr (max - fsz f) xs := by rw [tAdd, if_neg h]
theorem wt_tAdd (max : Nat) (xs : List Fld) (f : Fld) : wt (tAdd max xs f) ≤ max := by
  unfold tAdd
  split
  · simp [wt]
  · have := wt_shr (max - fsz f) xs
    simp only [wt]
    omega

/-- The fields that have numbers from the beginning on. -/
def alw : List Fld := [([58, 109, 101, 116, 104, 111, 100], [71, 69, 84]), ([58, 109, 101, 116, 104, 111, 100], [80, 79, 83, 84]), ([58, 112, 97, 116, 104], [47]), ([58, 104, 111, 115, 116], []), ([58, 99, 111, 100, 101], [50, 48, 48]), ([58, 99, 111, 100, 101], [52, 48, 52]), ([108, 101, 110, 103, 116, 104], []), ([116, 121, 112, 101], [116, 101, 120, 116]), ([99, 111, 111, 107, 105, 101], []), ([97, 99, 99, 101, 112, 116], [42]), ([100, 97, 116, 101], []), ([115, 101, 114, 118, 101, 114], [])]
theorem alw_len : alw.length = 12 := rfl
def tAll (xs : List Fld) : List Fld := alw ++ xs
theorem tAll_len (xs : List Fld) : (tAll xs).length = 12 + xs.length := by simp [tAll, alw_len]

/-- The number of the first that is so; 0: there is none. -/
def fnd (p : Fld → Bool) : List Fld → Nat
  | [] => 0
  | f :: l => if p f then 1 else if fnd p l = 0 then 0 else fnd p l + 1
theorem fnd_le (p : Fld → Bool) (l : List Fld) : fnd p l ≤ l.length := by
  induction l with
  | nil => simp [fnd]
  | cons f l ih =>
    simp only [fnd, List.length_cons]
    split
    · omega
    · split <;> omega
theorem fnd_snoc (p : Fld → Bool) (l : List Fld) (x : Fld) : fnd p (l ++ [x]) = if fnd p l ≠ 0 then fnd p l else if p x then l.length + 1 else 0 := by
  induction l with
  | nil => simp [fnd]
  | cons f l ih =>
    simp only [List.cons_append, fnd, ih, List.length_cons]
    by_cases h : p f = true
    · simp [h]
    · by_cases h2 : fnd p l = 0
      · by_cases h3 : p x = true
        · simp [h, h2, h3]
        · simp [h, h2, h3]
      · simp [h, h2]
theorem fnd_take_succ (p : Fld → Bool) (l : List Fld) (k : Nat) (h : k < l.length) : fnd p (l.take (k + 1)) = if fnd p (l.take k) ≠ 0 then fnd p (l.take k) else if p l[k] then k + 1 else 0 := by
  rw [List.take_succ_eq_append_getElem h, fnd_snoc, List.length_take, Nat.min_eq_left (by omega)]
/-- From the place i on, by its number in the whole. -/
def bnd (p : Fld → Bool) (l : List Fld) (i : Nat) : Nat := if fnd p (l.drop i) = 0 then 0 else fnd p (l.drop i) + i
theorem bnd_zero (p : Fld → Bool) (l : List Fld) : bnd p l 0 = fnd p l := by
  unfold bnd
  rw [List.drop_zero]
  split <;> omega
theorem bnd_end (p : Fld → Bool) (l : List Fld) : bnd p l l.length = 0 := by simp [bnd, fnd]
theorem fnd_hit {p : Fld → Bool} {f : Fld} (l : List Fld) (h : p f = true) : fnd p (f :: l) = 1 := by simp [fnd, h]
theorem fnd_none {p : Fld → Bool} {f : Fld} {l : List Fld} (h : ¬ p f = true) (h2 : fnd p l = 0) : fnd p (f :: l) = 0 := by simp [fnd, h, h2]
theorem fnd_later {p : Fld → Bool} {f : Fld} {l : List Fld} (h : ¬ p f = true) (h2 : fnd p l ≠ 0) : fnd p (f :: l) = fnd p l + 1 := by simp [fnd, h, h2]
theorem bnd_at (p : Fld → Bool) (l : List Fld) (i : Nat) (h : i < l.length) : bnd p l i = if p l[i] then i + 1 else bnd p l (i + 1) := by
  unfold bnd
  rw [List.drop_eq_getElem_cons h]
  by_cases h1 : p l[i] = true
  · rw [fnd_hit _ h1]
    simp [h1]
    omega
  · by_cases h2 : fnd p (l.drop (i + 1)) = 0
    · rw [fnd_none h1 h2]
      simp [h1, h2]
    · rw [fnd_later h1 h2]
      simp [h1, h2]
      omega
theorem fnd_some {p : Fld → Bool} {l : List Fld} (h : fnd p l ≠ 0) : ∃ hk : fnd p l - 1 < l.length, p l[fnd p l - 1] = true := by
  induction l with
  | nil => simp [fnd] at h
  | cons f l ih =>
    simp only [fnd] at h ⊢
    by_cases h1 : p f = true
    · simp [h1]
    · by_cases h2 : fnd p l = 0
      · simp [h1, h2] at h
      · obtain ⟨hk, hp⟩ := ih h2
        simp only [h1, h2, if_false, List.length_cons, Bool.false_eq_true]
        refine ⟨by omega, ?_⟩
        have e : fnd p l + 1 - 1 = (fnd p l - 1) + 1 := by omega
        simp only [e, List.getElem_cons_succ]
        exact hp
theorem fnd_least {p : Fld → Bool} {l : List Fld} {k : Nat} (hk : k < l.length) (hp : p l[k] = true) : 1 ≤ fnd p l ∧ fnd p l ≤ k + 1 := by
  induction l generalizing k with
  | nil => simp at hk
  | cons f l ih =>
    simp only [fnd]
    by_cases h1 : p f = true
    · simp [h1]
    · cases k with
      | zero => exact absurd hp h1
      | succ k =>
        obtain ⟨a, b⟩ := ih (k := k) (by simpa using hk) (by simpa using hp)
        rw [if_neg h1, if_neg (by omega)]
        omega
theorem fnd_le_of {p q : Fld → Bool} {l : List Fld} (h : ∀ f, p f = true → q f = true) (h0 : fnd p l ≠ 0) : 1 ≤ fnd q l ∧ fnd q l ≤ fnd p l := by
  obtain ⟨hk, hp⟩ := fnd_some h0
  have := fnd_least hk (h _ hp)
  omega
/-- A field, and its name. -/
def isF (f : Fld) : Fld → Bool := fun x => decide (x = f)
def isN (f : Fld) : Fld → Bool := fun x => decide (x.1 = f.1)
end Go.Proofs.YtkbbkamnmdeagaaDoor
