/-
  Plain law: texts and lists of fields as bytes, and back. Nothing of the program.
  wire.Get by its contract. No condition.
  wire.Get by one contract. Condition: the length's bound.
  wire.Put by one contract. No condition.
-/
import Derived.Test.YtbgnggkgmeagkaaGreatDoorMTopLines06
import Derived.Test.YtbgnggkgmeagkaaGreatDoorMTopLines01
import Derived.Test.YtbgnggkgmeagkaaGreatDoorMTopLines03
import Derived.Test.YtbgnggkgmeagkaaGreatDoorMTopLines02
set_option linter.unusedSimpArgs false
set_option linter.unusedVariables false
namespace Go.Proofs.YtbgnggkgmeagkaaGreatDoor

/-! ### texts -/
/-- What a text's bytes hold behind the number: the text itself, or its code where that is shorter. -/
def txtC (l : List UInt8) : List UInt8 := if l.length ≤ (enc l).length then l else enc l
def txtF (l : List UInt8) : Int := if l.length ≤ (enc l).length then 0 else 128
def txtL (l : List UInt8) : List UInt8 := if 400 < l.length then [] else putL ((txtC l).length : Nat) 7 (txtF l) ++ txtC l
def txtE (l : List UInt8) : Nat := if 400 < l.length then 4 else 0
theorem txtC_le (l : List UInt8) : (txtC l).length ≤ l.length := by
  unfold txtC
  split <;> omega
theorem txt_putOk (l : List UInt8) (h : l.length ≤ 400) : putOk ((txtC l).length : Nat) 7 (txtF l) := by
  have hc := txtC_le l
  unfold putOk txtF
  split <;> simp <;> omega
theorem txt_putE (l : List UInt8) (h : l.length ≤ 400) : putE ((txtC l).length : Nat) 7 (txtF l) = 0 := by
  rw [putE, if_pos (txt_putOk l h)]
theorem txt_putL_len (n : Nat) (f : Int) (h : n ≤ 2147483647) : (putL (n : Nat) 7 f).length ≤ 1000 := by
  unfold putL
  split
  · have := putN_len6 (n : Int).toNat (7 : Int).toNat (by omega) f.toNat
    omega
  · simp
/-- The text that bytes begin with, how many they are; the fault. -/
def readT (l : List UInt8) : List UInt8 × Nat × Nat :=
  if (getV l 7).2.2 ≠ 0 then ([], 0, (getV l 7).2.2)
  else if 400 < (getV l 7).1 then ([], 0, 4)
  else if l.length < (getV l 7).2.1 + (getV l 7).1 then ([], 0, 8)
  else match (if 128 ≤ (l.headD 0).toNat then decode ((l.drop (getV l 7).2.1).take (getV l 7).1) else some ((l.drop (getV l 7).2.1).take (getV l 7).1)) with
    | none => ([], 0, 2)
    | some s => if 400 < s.length then ([], 0, 4) else if txtL s = l.take ((getV l 7).2.1 + (getV l 7).1) then (s, (getV l 7).2.1 + (getV l 7).1, 0) else ([], 0, 2)

theorem putN_cons (n t f : Nat) : ∃ r, putN n t f = UInt8.ofNat (f + if n < 2 ^ t - 1 then n else 2 ^ t - 1) :: r ∧ putN n t 0 = UInt8.ofNat (if n < 2 ^ t - 1 then n else 2 ^ t - 1) :: r := by
  by_cases h : n < 2 ^ t - 1
  · exact ⟨[], by simp [putN, h], by simp [putN, h]⟩
  · exact ⟨cont (n - (2 ^ t - 1)), by simp [putN, h], by simp [putN, h]⟩
theorem high_low (t f m : Nat) (ht : 1 ≤ t) (ht8 : t ≤ 8) (hf : f % 2 ^ t = 0) (hf2 : f ≤ 255) (hm : m < 2 ^ t) : f + m < 256 ∧ (f + m) % 2 ^ t = m := by
  rcases (by omega : t = 1 ∨ t = 2 ∨ t = 3 ∨ t = 4 ∨ t = 5 ∨ t = 6 ∨ t = 7 ∨ t = 8) with rfl | rfl | rfl | rfl | rfl | rfl | rfl | rfl <;> simp at * <;> omega
theorem getV_low {c d : UInt8} (r : List UInt8) (t : Int) (h : c.toNat % 2 ^ t.toNat = d.toNat % 2 ^ t.toNat) : getV (c :: r) t = getV (d :: r) t := by
  simp only [getV, h]
/-- A number behind the high bits of a byte is read, whatever stands behind it; the first byte. -/
theorem getV_high (n t f : Nat) (b : List UInt8) (ht : 1 ≤ t) (ht8 : t ≤ 8) (hn : n ≤ 2147483647) (hf : f % 2 ^ t = 0) (hf2 : f ≤ 255) :
    getV (putN n t f ++ b) (t : Int) = (n, (putN n t f).length, 0) ∧ f ≤ ((putN n t f ++ b).headD 0).toNat ∧ ((putN n t f ++ b).headD 0).toNat < f + 2 ^ t ∧ putN n t f ≠ [] := by
  obtain ⟨r, h1, h2⟩ := putN_cons n t f
  have hp := pow2_bounds ht ht8
  have hg := getV_put n t b ht ht8 hn
  have hl : (putN n t 0).length = (putN n t f).length := by rw [h1, h2]; rfl
  obtain ⟨m, hm⟩ : ∃ m, (if n < 2 ^ t - 1 then n else 2 ^ t - 1) = m := ⟨_, rfl⟩
  have hm2 : m < 2 ^ t := by
    rw [← hm]
    split <;> omega
  rw [hm] at h1 h2
  obtain ⟨e1, e2⟩ := high_low t f m ht ht8 hf hf2 hm2
  have t1 := toNat_ofNat_lt e1
  have t2 := toNat_ofNat_lt (show m < 256 by omega)
  refine ⟨?_, ?_, ?_, by rw [h1]; simp⟩
  · rw [← hl, ← hg, h1, h2]
    simp only [List.cons_append]
    refine getV_low _ _ ?_
    rw [Int.toNat_natCast, t1, t2, e2, Nat.mod_eq_of_lt hm2]
  · rw [h1, List.cons_append, List.headD_cons, t1]
    omega
  · rw [h1, List.cons_append, List.headD_cons, t1]
    omega

theorem txtL_ok (s : List UInt8) (h : s.length ≤ 400) : txtL s = putN (txtC s).length 7 (txtF s).toNat ++ txtC s := by
  have hk := txt_putOk s h
  unfold txtL
  rw [if_neg (by omega), putL, if_pos hk]
  rfl
/-- EVERY TEXT COMES BACK, whatever stands behind it. -/
theorem readT_txt (s b : List UInt8) (h : s.length ≤ 400) : readT (txtL s ++ b) = (s, (txtL s).length, 0) := by
  have hC := txtC_le s
  have hk := txtL_ok s h
  have hF : (txtF s).toNat % 2 ^ 7 = 0 ∧ (txtF s).toNat ≤ 255 := by
    unfold txtF
    split <;> simp
  obtain ⟨g1, g2, g3, _⟩ := getV_high (txtC s).length 7 (txtF s).toNat (txtC s ++ b) (by omega) (by omega) (by omega) hF.1 hF.2
  have e : txtL s ++ b = putN (txtC s).length 7 (txtF s).toNat ++ (txtC s ++ b) := by rw [hk, List.append_assoc]
  have hlen : (txtL s).length = (putN (txtC s).length 7 (txtF s).toNat).length + (txtC s).length := by rw [hk, List.length_append]
  have g1' : getV (txtL s ++ b) 7 = ((txtC s).length, (putN (txtC s).length 7 (txtF s).toNat).length, 0) := by rw [e]; exact g1
  have hd : ((txtL s ++ b).drop (putN (txtC s).length 7 (txtF s).toNat).length).take (txtC s).length = txtC s := by
    rw [e, List.drop_left, List.take_left]
  have ht : (txtL s ++ b).take ((putN (txtC s).length 7 (txtF s).toNat).length + (txtC s).length) = txtL s := by
    rw [← hlen, List.take_left]
  rw [← e] at g2 g3
  unfold readT
  simp only [g1', hd, ht]
  rw [if_neg (by simp), if_neg (by omega), if_neg (by rw [List.length_append]; omega)]
  by_cases hle : s.length ≤ (enc s).length
  · have hFz : (txtF s).toNat = 0 := by simp [txtF, hle]
    have hCs : txtC s = s := by simp [txtC, hle]
    rw [if_neg (by omega)]
    rw [hCs] at hlen ⊢
    simp only
    rw [if_neg (by omega), if_pos trivial, hlen]
  · have hFz : (txtF s).toNat = 128 := by simp [txtF, hle]
    have hCs : txtC s = enc s := by simp [txtC, hle]
    rw [if_pos (by omega), hCs, decode_enc]
    simp only
    rw [if_neg (by omega), if_pos trivial, hlen, hCs]
/-- What is read takes at least a byte, and no more than there are. -/
theorem getV_used {l : List UInt8} {t : Int} (h : (getV l t).2.2 = 0) : 1 ≤ (getV l t).2.1 ∧ (getV l t).2.1 ≤ l.length ∧ (getV l t).1 ≤ 2147483647 := by
  match l, h with
  | [], h =>
    simp only [getV] at h
    split at h <;> simp at h
  | c :: r, h =>
    obtain ⟨N, U, hV⟩ : ∃ N U, getV (c :: r) t = (N, U, 0) := ⟨_, _, by rw [← h]⟩
    obtain ⟨_, _, hN, hU, hU2, _⟩ := put_getV c r t N U hV
    rw [hV]
    exact ⟨hU, by simpa using hU2, hN⟩
theorem readT_used {l : List UInt8} (h : (readT l).2.2 = 0) : 1 ≤ (readT l).2.1 ∧ (readT l).2.1 ≤ l.length ∧ (readT l).1.length ≤ 400 := by
  unfold readT at h ⊢
  by_cases h1 : (getV l 7).2.2 ≠ 0
  · rw [if_pos h1] at h
    exact absurd h h1
  have hu := getV_used (Decidable.not_not.1 h1)
  rw [if_neg h1] at h ⊢
  by_cases h2 : 400 < (getV l 7).1
  · rw [if_pos h2] at h; simp at h
  rw [if_neg h2] at h ⊢
  by_cases h3 : l.length < (getV l 7).2.1 + (getV l 7).1
  · rw [if_pos h3] at h; simp at h
  rw [if_neg h3] at h ⊢
  split at h
  · simp at h
  · rename_i s hs
    by_cases h4 : 400 < s.length
    · rw [if_pos h4] at h; simp at h
    rw [if_neg h4] at h ⊢
    by_cases h5 : txtL s = l.take ((getV l 7).2.1 + (getV l 7).1)
    · rw [if_pos h5]
      simp only
      exact ⟨by omega, by omega, by omega⟩
    · rw [if_neg h5] at h; simp at h

/-! ### lists of fields: said -/
/-- One field: its bytes; the table behind it. -/
def saidF (_mx : Nat) (xs : List Fld) (f : Fld) : List UInt8 :=
  if fnd (isF f) (tAll xs) ≠ 0 then putL (fnd (isF f) (tAll xs) : Nat) 7 128
  else putL (fnd (isN f) (tAll xs) : Nat) 6 64 ++ (if fnd (isN f) (tAll xs) = 0 then txtL f.1 else []) ++ txtL f.2
def nextF (mx : Nat) (xs : List Fld) (f : Fld) : List Fld := if fnd (isF f) (tAll xs) ≠ 0 then xs else tAdd mx xs f
def saidL (mx : Nat) : List Fld → List Fld → List UInt8
  | _, [] => []
  | xs, f :: l => saidF mx xs f ++ saidL mx (nextF mx xs f) l
def nextL (mx : Nat) : List Fld → List Fld → List Fld
  | xs, [] => xs
  | xs, f :: l => nextL mx (nextF mx xs f) l
def leastP (p : Nat) (r : List Nat) : Nat := r.foldl min p
def saidP : List Nat → List UInt8
  | [] => []
  | p :: r => putL (leastP p r : Nat) 5 32 ++ (if leastP p r < (p :: r).getLast (by simp) then putL ((p :: r).getLast (by simp) : Nat) 5 32 else [])
/-- There would be more than may be. -/
def tooMuch (l : List Fld) : Bool := decide (40 < l.length) || decide (2000 < wt l)
def tooLong (l : List Fld) : Bool := l.any fun f => decide (400 < f.1.length) || decide (400 < f.2.length)
def saidE (l : List Fld) : Nat := if tooMuch l || tooLong l then 4 else 0

/-! ### lists of fields: heard -/
def litV (xs : List Fld) (b : List UInt8) (t : Int) : Fld × Nat × Nat :=
  if (getV b t).2.2 ≠ 0 then (([], []), 0, (getV b t).2.2)
  else if 12 + xs.length < (getV b t).1 then (([], []), 0, 5)
  else if 0 < (getV b t).1 then
    if (readT (b.drop (getV b t).2.1)).2.2 ≠ 0 then (([], []), 0, (readT (b.drop (getV b t).2.1)).2.2)
    else ((((tAll xs).getD ((getV b t).1 - 1) ([], [])).1, (readT (b.drop (getV b t).2.1)).1), (getV b t).2.1 + (readT (b.drop (getV b t).2.1)).2.1, 0)
  else if (readT (b.drop (getV b t).2.1)).2.2 ≠ 0 then (([], []), 0, (readT (b.drop (getV b t).2.1)).2.2)
  else if (readT (b.drop ((getV b t).2.1 + (readT (b.drop (getV b t).2.1)).2.1))).2.2 ≠ 0 then (([], []), 0, (readT (b.drop ((getV b t).2.1 + (readT (b.drop (getV b t).2.1)).2.1))).2.2)
  else (((readT (b.drop (getV b t).2.1)).1, (readT (b.drop ((getV b t).2.1 + (readT (b.drop (getV b t).2.1)).2.1))).1),
    (getV b t).2.1 + (readT (b.drop (getV b t).2.1)).2.1 + (readT (b.drop ((getV b t).2.1 + (readT (b.drop (getV b t).2.1)).2.1))).2.1, 0)
/-- One step behind a piece that is read: fault, table, its greatest size, fields, bytes. -/
structure Step where
  e : Nat
  xs : List Fld
  mx : Nat
  l : List Fld
  n : Nat
def pushF (xs : List Fld) (mx : Nat) (l : List Fld) (f : Fld) (n : Nat) : Step := if tooMuch (l ++ [f]) then ⟨4, xs, mx, [], 0⟩ else ⟨0, xs, mx, l ++ [f], n⟩
def heardS (most : Nat) (xs : List Fld) (mx : Nat) (l : List Fld) (b : List UInt8) : Step :=
  if 128 ≤ (b.headD 0).toNat then
    if (getV b 7).2.2 ≠ 0 then ⟨(getV b 7).2.2, xs, mx, [], 0⟩
    else if (getV b 7).1 < 1 ∨ 12 + xs.length < (getV b 7).1 then ⟨5, xs, mx, [], 0⟩
    else pushF xs mx l ((tAll xs).getD ((getV b 7).1 - 1) ([], [])) (getV b 7).2.1
  else if 64 ≤ (b.headD 0).toNat then
    if (litV xs b 6).2.2 ≠ 0 then ⟨(litV xs b 6).2.2, xs, mx, [], 0⟩ else pushF (tAdd mx xs (litV xs b 6).1) mx l (litV xs b 6).1 (litV xs b 6).2.1
  else if 32 ≤ (b.headD 0).toNat then
    if (getV b 5).2.2 ≠ 0 then ⟨(getV b 5).2.2, xs, mx, [], 0⟩
    else if most < (getV b 5).1 then ⟨1, xs, mx, [], 0⟩
    else if 0 < l.length then ⟨6, xs, mx, [], 0⟩
    else ⟨0, shr (getV b 5).1 xs, (getV b 5).1, l, (getV b 5).2.1⟩
  else if (litV xs b 4).2.2 ≠ 0 then ⟨(litV xs b 4).2.2, xs, mx, [], 0⟩ else pushF xs mx l (litV xs b 4).1 (litV xs b 4).2.1
def heard (most : Nat) (xs : List Fld) (mx : Nat) (l : List Fld) (b : List UInt8) : Step :=
  if b = [] then ⟨0, xs, mx, l, 0⟩
  else if (heardS most xs mx l b).e ≠ 0 then heardS most xs mx l b
  else if _hn : (heardS most xs mx l b).n = 0 ∨ b.length < (heardS most xs mx l b).n then ⟨0, xs, mx, l, 0⟩
  else heard most (heardS most xs mx l b).xs (heardS most xs mx l b).mx (heardS most xs mx l b).l (b.drop (heardS most xs mx l b).n)
termination_by b.length
decreasing_by
  rw [List.length_drop]
  omega
theorem litV_used {xs : List Fld} {b : List UInt8} {t : Int} (h : (litV xs b t).2.2 = 0) : 1 ≤ (litV xs b t).2.1 ∧ (litV xs b t).2.1 ≤ b.length := by
  unfold litV at h ⊢
  by_cases h1 : (getV b t).2.2 ≠ 0
  · rw [if_pos h1] at h
    exact absurd h h1
  have hu := getV_used (Decidable.not_not.1 h1)
  rw [if_neg h1] at h ⊢
  by_cases h2 : 12 + xs.length < (getV b t).1
  · rw [if_pos h2] at h; simp at h
  rw [if_neg h2] at h ⊢
  by_cases h3 : (readT (b.drop (getV b t).2.1)).2.2 ≠ 0
  · rw [if_pos h3, if_pos h3] at h
    split at h <;> exact absurd h h3
  have hu2 := readT_used (Decidable.not_not.1 h3)
  rw [List.length_drop] at hu2
  rw [if_neg h3, if_neg h3] at h ⊢
  by_cases h4 : 0 < (getV b t).1
  · rw [if_pos h4]
    simp only
    omega
  rw [if_neg h4] at h ⊢
  by_cases h5 : (readT (b.drop ((getV b t).2.1 + (readT (b.drop (getV b t).2.1)).2.1))).2.2 ≠ 0
  · rw [if_pos h5] at h
    exact absurd h h5
  have hu3 := readT_used (Decidable.not_not.1 h5)
  rw [List.length_drop] at hu3
  rw [if_neg h5]
  simp only
  omega
theorem pushF_e (xs : List Fld) (mx : Nat) (l : List Fld) (f : Fld) (n : Nat) (h : (pushF xs mx l f n).e = 0) : (pushF xs mx l f n).n = n := by
  unfold pushF at h ⊢
  split at h
  · simp at h
  · rename_i h1
    rw [if_neg h1]
theorem heardS_used {most : Nat} {xs : List Fld} {mx : Nat} {l : List Fld} {b : List UInt8} (h : (heardS most xs mx l b).e = 0) : 1 ≤ (heardS most xs mx l b).n ∧ (heardS most xs mx l b).n ≤ b.length := by
  unfold heardS at h ⊢
  by_cases c1 : 128 ≤ (b.headD 0).toNat
  · rw [if_pos c1] at h ⊢
    by_cases h1 : (getV b 7).2.2 ≠ 0
    · rw [if_pos h1] at h; exact absurd h h1
    have hu := getV_used (Decidable.not_not.1 h1)
    rw [if_neg h1] at h ⊢
    by_cases h2 : (getV b 7).1 < 1 ∨ 12 + xs.length < (getV b 7).1
    · rw [if_pos h2] at h; simp at h
    rw [if_neg h2] at h ⊢
    rw [pushF_e _ _ _ _ _ h]
    omega
  rw [if_neg c1] at h ⊢
  by_cases c2 : 64 ≤ (b.headD 0).toNat
  · rw [if_pos c2] at h ⊢
    by_cases h1 : (litV xs b 6).2.2 ≠ 0
    · rw [if_pos h1] at h; exact absurd h h1
    rw [if_neg h1] at h ⊢
    rw [pushF_e _ _ _ _ _ h]
    exact litV_used (Decidable.not_not.1 h1)
  rw [if_neg c2] at h ⊢
  by_cases c3 : 32 ≤ (b.headD 0).toNat
  · rw [if_pos c3] at h ⊢
    by_cases h1 : (getV b 5).2.2 ≠ 0
    · rw [if_pos h1] at h; exact absurd h h1
    have hu := getV_used (Decidable.not_not.1 h1)
    rw [if_neg h1] at h ⊢
    by_cases h2 : most < (getV b 5).1
    · rw [if_pos h2] at h; simp at h
    rw [if_neg h2] at h ⊢
    by_cases h3 : 0 < l.length
    · rw [if_pos h3] at h; simp at h
    rw [if_neg h3]
    exact ⟨hu.1, hu.2.1⟩
  rw [if_neg c3] at h ⊢
  by_cases h1 : (litV xs b 4).2.2 ≠ 0
  · rw [if_pos h1] at h; exact absurd h h1
  rw [if_neg h1] at h ⊢
  rw [pushF_e _ _ _ _ _ h]
  exact litV_used (Decidable.not_not.1 h1)
theorem heard_nil (most : Nat) (xs : List Fld) (mx : Nat) (l : List Fld) : heard most xs mx l [] = ⟨0, xs, mx, l, 0⟩ := by rw [heard, if_pos rfl]
theorem heard_fault {most : Nat} {xs : List Fld} {mx : Nat} {l : List Fld} {b : List UInt8} (hb : b ≠ []) (h : (heardS most xs mx l b).e ≠ 0) : heard most xs mx l b = heardS most xs mx l b := by
  rw [heard, if_neg hb, if_pos h]
theorem heard_next {most : Nat} {xs : List Fld} {mx : Nat} {l : List Fld} {b : List UInt8} (hb : b ≠ []) (h : (heardS most xs mx l b).e = 0) :
    heard most xs mx l b = heard most (heardS most xs mx l b).xs (heardS most xs mx l b).mx (heardS most xs mx l b).l (b.drop (heardS most xs mx l b).n) := by
  have hu := heardS_used h
  rw [heard, if_neg hb, if_neg (by omega), dif_neg (by omega)]
end Go.Proofs.YtbgnggkgmeagkaaGreatDoor
namespace Go.Proofs.YtbgnggkgmeagkaaGreatDoor
open Go.RowKit

theorem wrap64_in (x : Int) (h : -9223372036854775808 ≤ x) (h2 : x ≤ 9223372036854775807) : wrap64 x = x := by
  unfold wrap64
  omega
theorem wrap64_pow (t : Nat) (h : t ≤ 8) : wrap64 ((2 : Int) ^ t) = ((2 ^ t : Nat) : Int) := by
  have e : ((2 : Int) ^ t) = ((2 ^ t : Nat) : Int) := by simp
  rw [e]
  have h2 : 2 ^ t ≤ 2 ^ 8 := Nat.pow_le_pow_right (by omega) h
  generalize 2 ^ t = p at *
  exact wrap64_in _ (by omega) (by omega)
theorem wrap64_shift (y k : Nat) (hy : y ≤ 127) (hk : k ≤ 4) : wrap64 ((y : Int) * 2 ^ (7 * k)) = ((y * 128 ^ k : Nat) : Int) := by
  have hpw := pow128_le hk
  have hz : y * 128 ^ k ≤ 127 * 268435456 := Nat.mul_le_mul hy hpw.2
  have e : ((y : Int) * 2 ^ (7 * k)) = ((y * 128 ^ k : Nat) : Int) := by
    rw [← pow128]
    simp
  rw [e]
  exact wrap64_in _ (by omega) (by omega)

/-- The first byte alone says the number. -/
theorem wget_one (r : List UInt8) (c0 : UInt8) (t : Nat) (ht : 1 ≤ t) (ht8 : t ≤ 8) (A : Option Addr) (n c : Nat) (hn : n = r.length + 1) (B : Nat) (w : World) (hr : Reads w B 1 A (r.length + 1) (bs (c0 :: r)))
    (hlt : c0.toNat % 2 ^ t < 2 ^ t - 1) :
    Calls Tryz.prog 149 #[.slice A n c, .int .i64 t] w fun e w' => e = .returned (.tuple #[.int .i64 (c0.toNat % 2 ^ t : Nat), .int .i64 1, .nilIface]) ∧ w = w' := by
  subst hn
  obtain ⟨b, off, rfl, _, hc⟩ := reads_byte (l := c0 :: r) hr (k := 0) (by simp)
  have h0 : w.cell? ⟨b, off, none⟩ = some (.int .u8 (c0.toNat : Int)) := hc
  have hb : c0.toNat < 256 := c0.toNat_lt
  have hp := pow2_bounds ht ht8
  have hm := i64_mask c0.toNat t (by omega) (by omega)
  have hs := wrap64_pow t ht8
  clear hc hr
  generalize c0.toNat % 2 ^ t = x at *
  generalize c0.toNat = y at *
  generalize 2 ^ t = p at *
  have hlt' : (x : Int) < (p : Int) - 1 := by omega
  clear hlt
  go_enter Tryz.func149, Tryz.ntmps149
  go_wp2
  all_goals go_ret3
  all_goals exact ⟨rfl, rfl⟩

set_option maxRecDepth 100000 in
set_option maxHeartbeats 4000000 in
theorem wget_more (r : List UInt8) (c0 : UInt8) (t : Nat) (ht : 1 ≤ t) (ht8 : t ≤ 8) (A : Option Addr) (n c : Nat) (hn : n = r.length + 1) (hcap : r.length + 1 ≤ c) (hm : r.length ≤ 140737488355328) (B : Nat) (w : World) (hr : Reads w B 1 A (r.length + 1) (bs (c0 :: r)))
    (hlt : ¬ c0.toNat % 2 ^ t < 2 ^ t - 1) (N U E : Nat) (hR : getFrom 0 (c0.toNat % 2 ^ t) r = (N, U, E)) :
    Calls Tryz.prog 149 #[.slice A n c, .int .i64 t] w fun e w' => e = .returned (.tuple #[.int .i64 (N : Int), .int .i64 (U : Int), errV E]) ∧ w = w' := by
  subst hn
  obtain ⟨b, off, rfl, hbB, hall⟩ := hr.form (by omega)
  have h0 : w.cell? ⟨b, off, none⟩ = some (.int .u8 (c0.toNat : Int)) := hall 0 _ rfl
  have HC : Hid (∀ k (hk : k < r.length), w.cell? ⟨b, off + 1 + k, none⟩ = some (.int .u8 (r[k].toNat : Int))) := by
    intro k hk
    have := hall (k + 1) (.int .u8 (r[k].toNat : Int)) (by simp [bs, hk])
    rwa [Nat.add_assoc, Nat.add_comm 1 k]
  have hb : c0.toNat < 256 := c0.toNat_lt
  have hp := pow2_bounds ht ht8
  have HMK := Lib.hid (i64_mask c0.toNat t (by omega) (by omega))
  have HS := Lib.hid (wrap64_pow t ht8)
  have hx8 := Nat.mod_lt c0.toNat (show 0 < 2 ^ t by omega)
  have HR := Lib.hid hR
  have H0 := Lib.hid h0
  clear hall hr hR hbB h0
  generalize c0.toNat % 2 ^ t = x0 at *
  generalize c0.toNat = y0 at *
  generalize 2 ^ t = p at *
  have hd : decide ((x0 : Int) < (p : Int) - 1) = false := by simp; omega
  have ht1 : decide ((t : Int) < 1) = false := by simp; omega
  have ht9 : decide ((8 : Int) < (t : Int)) = false := by simp; omega
  have hx0 : x0 ≤ 255 := by omega
  clear hlt
  by_cases hone : r.length = 0
  · have hr0 : r = [] := List.eq_nil_of_length_eq_zero hone
    subst hr0
    have hO := HR.out
    simp only [getFrom, Prod.mk.injEq] at hO
    obtain ⟨rfl, rfl, rfl⟩ := hO
    clear HR HC hone
    simp only [List.length_nil, Nat.zero_add] at *
    have h0 := H0.out
    have hmk := HMK.out
    have hs := HS.out
    go_enter Tryz.func149, Tryz.ntmps149
    go_wp2
    all_goals
      refine wp_loop_rounds 1 ?_
      rw [rounds_succ]
      go_wp2
      go_ret3
      exact ⟨rfl, rfl⟩
  have hc2 : 2 ≤ c := by omega
  have hr1 : 1 ≤ r.length := by omega
  clear hone
  have h0 := H0.out
  have hmk := HMK.out
  have hs := HS.out
  go_enter Tryz.func149, Tryz.ntmps149
  go_wp2
  clear hmk hs h0 H0 HMK HS
  go_loop [4, 8, 9, 37] (fun n _ _ i => ∃ k x : Nat, k ≤ 4 ∧ k ≤ r.length ∧ i = .int .i64 k ∧ n = .int .i64 x ∧ x ≤ 2147483647 ∧ Hid (getFrom k x (r.drop k) = (N, U, E))) (fun _ _ _ i => r.length - (intOf i).toNat)
  case atStart => exact ⟨0, x0, by omega, by omega, rfl, rfl, by omega, HR⟩
  case round =>
    obtain ⟨k, x, hk4, hk, rfl, rfl, hx, HX⟩ := hrel
    clear HR
    by_cases hlt : k < r.length
    · have hcl := HC.out k hlt
      have hyb := r[k].toNat_lt
      have hdrop := List.drop_eq_getElem_cons hlt
      have hym := Nat.mod_lt r[k].toNat (show 0 < 128 by omega)
      have hpw := pow128_le hk4
      have hz : r[k].toNat % 128 * 128 ^ k ≤ 127 * 268435456 := Nat.mul_le_mul (by omega) hpw.2
      have hOO := HX.out
      rw [hdrop] at hOO
      have HO := Lib.hid hOO
      have HM := Lib.hid (u8_mask7 r[k].toNat (by omega))
      clear hOO hdrop HC HX
      have O1 := Lib.hid (@getFrom_over k x r[k] (r.drop (k + 1)))
      have O2 := Lib.hid (@getFrom_zero k x r[k] (r.drop (k + 1)))
      have O3 := Lib.hid (@getFrom_done k x r[k] (r.drop (k + 1)))
      have O4 := Lib.hid (@getFrom_next k x r[k] (r.drop (k + 1)))
      generalize getFrom k x (r[k] :: r.drop (k + 1)) = G at *
      generalize hyv : r[k].toNat % 128 = y at *
      have HYV := Lib.hid hyv
      clear hyv
      generalize r[k].toNat = v at *
      clear hpw hz
      rcases (by omega : k = 0 ∨ k = 1 ∨ k = 2 ∨ k = 3 ∨ k = 4) with rfl | rfl | rfl | rfl | rfl
      · simp only [Nat.reducePow, Nat.mul_one, Nat.reduceAdd, Nat.pow_zero] at *
        have hmask := HM.out
        clear HM
        by_cases c1 : 2147483647 < x + y
        · have e := (O1.out (.inl c1)).symm.trans HO.out
          simp only [Prod.mk.injEq] at e
          obtain ⟨rfl, rfl, rfl⟩ := e
          have c1' : (2147483647 : Int) < (x : Int) + (y : Int) := by omega
          clear O1 O2 O3 O4 HO
          go_wp2
          go_ret3
          exact ⟨rfl, rfl⟩
        have c1' : ¬ (2147483647 : Int) < (x : Int) + (y : Int) := by omega
        have hno : ¬ (2147483647 < x + y ∨ ((0 : Nat) = 4 ∧ 128 ≤ v)) := by omega
        by_cases c5 : v < 128
        · have e := (O3.out hno (by omega) c5).symm.trans HO.out
          simp only [Prod.mk.injEq] at e
          obtain ⟨rfl, rfl, rfl⟩ := e
          clear O1 O2 O3 O4 HO hno
          go_wp2
          go_ret3
          exact ⟨by simp [errV], rfl⟩
        have e := (O4.out hno (by omega) c5).symm.trans HO.out
        have HE := Lib.hid e
        clear O1 O2 O3 O4 HO hno e
        go_wp2
        go_round
        case rel => exact ⟨1, x + y, by omega, by omega, by go_num, by go_num, by omega, HE.out⟩
        case measure => simp [intOf]; omega
      · simp only [Nat.reducePow, Nat.mul_one, Nat.reduceAdd, Nat.pow_zero] at *
        have hmask := HM.out
        clear HM
        by_cases c1 : 2147483647 < x + y * 128
        · have e := (O1.out (.inl c1)).symm.trans HO.out
          simp only [Prod.mk.injEq] at e
          obtain ⟨rfl, rfl, rfl⟩ := e
          have c1' : (2147483647 : Int) < (x : Int) + (y : Int) * 128 := by omega
          clear O1 O2 O3 O4 HO
          go_wp2
          go_ret3
          exact ⟨rfl, rfl⟩
        have c1' : ¬ (2147483647 : Int) < (x : Int) + (y : Int) * 128 := by omega
        have hno : ¬ (2147483647 < x + y * 128 ∨ ((1 : Nat) = 4 ∧ 128 ≤ v)) := by omega
        by_cases c4 : v = 0
        · have e := (O2.out hno ⟨by omega, c4⟩).symm.trans HO.out
          simp only [Prod.mk.injEq] at e
          obtain ⟨rfl, rfl, rfl⟩ := e
          subst c4
          have hy0 : y = 0 := by have := HYV.out; omega
          subst hy0
          have hx' : decide ((2147483647 : Int) < (x : Int)) = false := by simp; omega
          have hm0 : bits .and .u8 (0 : Int) 127 = 0 := u8_mask7 0 (by decide)
          clear O1 O2 O3 O4 HO hno c1 c1' HYV hmask
          go_wp2
          go_ret3
          exact ⟨rfl, rfl⟩
        have c4' : ((v : Int) == 0) = false := by simp; omega
        by_cases c5 : v < 128
        · have e := (O3.out hno (by omega) c5).symm.trans HO.out
          simp only [Prod.mk.injEq] at e
          obtain ⟨rfl, rfl, rfl⟩ := e
          clear O1 O2 O3 O4 HO hno
          go_wp2
          go_ret3
          exact ⟨by simp [errV], rfl⟩
        have e := (O4.out hno (by omega) c5).symm.trans HO.out
        have HE := Lib.hid e
        clear O1 O2 O3 O4 HO hno e
        go_wp2
        go_round
        case rel => exact ⟨2, x + y * 128, by omega, by omega, by go_num, by go_num, by omega, HE.out⟩
        case measure => simp [intOf]; omega
      · simp only [Nat.reducePow, Nat.mul_one, Nat.reduceAdd, Nat.pow_zero] at *
        have hmask := HM.out
        clear HM
        by_cases c1 : 2147483647 < x + y * 16384
        · have e := (O1.out (.inl c1)).symm.trans HO.out
          simp only [Prod.mk.injEq] at e
          obtain ⟨rfl, rfl, rfl⟩ := e
          have c1' : (2147483647 : Int) < (x : Int) + (y : Int) * 16384 := by omega
          clear O1 O2 O3 O4 HO
          go_wp2
          go_ret3
          exact ⟨rfl, rfl⟩
        have c1' : ¬ (2147483647 : Int) < (x : Int) + (y : Int) * 16384 := by omega
        have hno : ¬ (2147483647 < x + y * 16384 ∨ ((2 : Nat) = 4 ∧ 128 ≤ v)) := by omega
        by_cases c4 : v = 0
        · have e := (O2.out hno ⟨by omega, c4⟩).symm.trans HO.out
          simp only [Prod.mk.injEq] at e
          obtain ⟨rfl, rfl, rfl⟩ := e
          subst c4
          have hy0 : y = 0 := by have := HYV.out; omega
          subst hy0
          have hx' : decide ((2147483647 : Int) < (x : Int)) = false := by simp; omega
          have hm0 : bits .and .u8 (0 : Int) 127 = 0 := u8_mask7 0 (by decide)
          clear O1 O2 O3 O4 HO hno c1 c1' HYV hmask
          go_wp2
          go_ret3
          exact ⟨rfl, rfl⟩
        have c4' : ((v : Int) == 0) = false := by simp; omega
        by_cases c5 : v < 128
        · have e := (O3.out hno (by omega) c5).symm.trans HO.out
          simp only [Prod.mk.injEq] at e
          obtain ⟨rfl, rfl, rfl⟩ := e
          clear O1 O2 O3 O4 HO hno
          go_wp2
          go_ret3
          exact ⟨by simp [errV], rfl⟩
        have e := (O4.out hno (by omega) c5).symm.trans HO.out
        have HE := Lib.hid e
        clear O1 O2 O3 O4 HO hno e
        go_wp2
        go_round
        case rel => exact ⟨3, x + y * 16384, by omega, by omega, by go_num, by go_num, by omega, HE.out⟩
        case measure => simp [intOf]; omega
      · simp only [Nat.reducePow, Nat.mul_one, Nat.reduceAdd, Nat.pow_zero] at *
        have hmask := HM.out
        clear HM
        by_cases c1 : 2147483647 < x + y * 2097152
        · have e := (O1.out (.inl c1)).symm.trans HO.out
          simp only [Prod.mk.injEq] at e
          obtain ⟨rfl, rfl, rfl⟩ := e
          have c1' : (2147483647 : Int) < (x : Int) + (y : Int) * 2097152 := by omega
          clear O1 O2 O3 O4 HO
          go_wp2
          go_ret3
          exact ⟨rfl, rfl⟩
        have c1' : ¬ (2147483647 : Int) < (x : Int) + (y : Int) * 2097152 := by omega
        have hno : ¬ (2147483647 < x + y * 2097152 ∨ ((3 : Nat) = 4 ∧ 128 ≤ v)) := by omega
        by_cases c4 : v = 0
        · have e := (O2.out hno ⟨by omega, c4⟩).symm.trans HO.out
          simp only [Prod.mk.injEq] at e
          obtain ⟨rfl, rfl, rfl⟩ := e
          subst c4
          have hy0 : y = 0 := by have := HYV.out; omega
          subst hy0
          have hx' : decide ((2147483647 : Int) < (x : Int)) = false := by simp; omega
          have hm0 : bits .and .u8 (0 : Int) 127 = 0 := u8_mask7 0 (by decide)
          clear O1 O2 O3 O4 HO hno c1 c1' HYV hmask
          go_wp2
          go_ret3
          exact ⟨rfl, rfl⟩
        have c4' : ((v : Int) == 0) = false := by simp; omega
        by_cases c5 : v < 128
        · have e := (O3.out hno (by omega) c5).symm.trans HO.out
          simp only [Prod.mk.injEq] at e
          obtain ⟨rfl, rfl, rfl⟩ := e
          clear O1 O2 O3 O4 HO hno
          go_wp2
          go_ret3
          exact ⟨by simp [errV], rfl⟩
        have e := (O4.out hno (by omega) c5).symm.trans HO.out
        have HE := Lib.hid e
        clear O1 O2 O3 O4 HO hno e
        go_wp2
        go_round
        case rel => exact ⟨4, x + y * 2097152, by omega, by omega, by go_num, by go_num, by omega, HE.out⟩
        case measure => simp [intOf]; omega
      · simp only [Nat.reducePow, Nat.mul_one, Nat.reduceAdd, Nat.pow_zero] at *
        have hmask := HM.out
        clear HM
        by_cases c1 : 2147483647 < x + y * 268435456
        · have e := (O1.out (.inl c1)).symm.trans HO.out
          simp only [Prod.mk.injEq] at e
          obtain ⟨rfl, rfl, rfl⟩ := e
          have c1' : (2147483647 : Int) < (x : Int) + (y : Int) * 268435456 := by omega
          clear O1 O2 O3 O4 HO
          go_wp2
          go_ret3
          exact ⟨rfl, rfl⟩
        have c1' : ¬ (2147483647 : Int) < (x : Int) + (y : Int) * 268435456 := by omega
        by_cases c2 : 128 ≤ v
        · have e := (O1.out (.inr ⟨trivial, c2⟩)).symm.trans HO.out
          simp only [Prod.mk.injEq] at e
          obtain ⟨rfl, rfl, rfl⟩ := e
          clear O1 O2 O3 O4 HO
          go_wp2
          go_ret3
          exact ⟨rfl, rfl⟩
        have hno : ¬ (2147483647 < x + y * 268435456 ∨ (True ∧ 128 ≤ v)) := by omega
        by_cases c4 : v = 0
        · have e := (O2.out hno ⟨by omega, c4⟩).symm.trans HO.out
          simp only [Prod.mk.injEq] at e
          obtain ⟨rfl, rfl, rfl⟩ := e
          subst c4
          have hy0 : y = 0 := by have := HYV.out; omega
          subst hy0
          have hx' : decide ((2147483647 : Int) < (x : Int)) = false := by simp; omega
          have hm0 : bits .and .u8 (0 : Int) 127 = 0 := u8_mask7 0 (by decide)
          clear O1 O2 O3 O4 HO hno c1 c1' HYV hmask
          go_wp2
          go_ret3
          exact ⟨rfl, rfl⟩
        have c4' : ((v : Int) == 0) = false := by simp; omega
        by_cases c5 : v < 128
        · have e := (O3.out hno (by omega) c5).symm.trans HO.out
          simp only [Prod.mk.injEq] at e
          obtain ⟨rfl, rfl, rfl⟩ := e
          clear O1 O2 O3 O4 HO hno
          go_wp2
          go_ret3
          exact ⟨by simp [errV], rfl⟩
        omega
    · have hkr : k = r.length := by omega
      subst hkr
      have e := HX.out
      rw [List.drop_length] at e
      simp only [getFrom, Prod.mk.injEq] at e
      obtain ⟨rfl, rfl, rfl⟩ := e
      clear HX HC
      go_wp2
      go_ret3
      exact ⟨rfl, rfl⟩
end Go.Proofs.YtbgnggkgmeagkaaGreatDoor
namespace Go.Proofs.YtbgnggkgmeagkaaGreatDoor
open Go.RowKit

theorem wget_any (l : List UInt8) (s : Int) (A : Option Addr) (n c : Nat) (hn : n = l.length) (hcap : l.length ≤ c) (hm : l.length ≤ 140737488355328) (B : Nat) (w : World) (hr : Reads w B 1 A l.length (bs l)) :
    Calls Tryz.prog 149 #[.slice A n c, .int .i64 s] w fun e w' => e = .returned (.tuple #[.int .i64 (getV l s).1, .int .i64 (getV l s).2.1, errV (getV l s).2.2]) ∧ w = w' := by
  subst hn
  by_cases h1 : s < 1 ∨ 8 < s
  · have e1 : getV l s = (0, 0, 1) := by simp [getV, h1]
    rw [e1]
    clear e1 hr
    rcases h1 with h1 | h1
    all_goals
      go_enter Tryz.func149, Tryz.ntmps149
      go_wp2
      go_ret3
      exact ⟨rfl, rfl⟩
  obtain ⟨t, rfl⟩ := Int.eq_ofNat_of_zero_le (show 0 ≤ s by omega)
  match l, hcap, hm, hr with
  | [], hcap, hm, hr =>
    have e1 : getV [] (t : Int) = (0, 0, 8) := by simp [getV, h1]
    rw [e1]
    simp only [List.length_nil]
    clear e1 hr
    go_enter Tryz.func149, Tryz.ntmps149
    go_wp2
    go_ret3
    exact ⟨rfl, rfl⟩
  | c0 :: r, hcap, hm, hr =>
    simp only [List.length_cons] at hcap hm hr
    by_cases hlt : c0.toNat % 2 ^ t < 2 ^ t - 1
    · have e1 : getV (c0 :: r) (t : Int) = (c0.toNat % 2 ^ t, 1, 0) := by simp [getV, h1, hlt]
      rw [e1]
      exact wget_one r c0 t (by omega) (by omega) A _ c rfl B w hr hlt
    · have e1 : getV (c0 :: r) (t : Int) = getFrom 0 (c0.toNat % 2 ^ t) r := by simp [getV, h1, hlt]
      rw [e1]
      exact wget_more r c0 t (by omega) (by omega) A _ c rfl hcap (by omega) B w hr hlt _ _ _ rfl
end Go.Proofs.YtbgnggkgmeagkaaGreatDoor
namespace Go.Proofs.YtbgnggkgmeagkaaGreatDoor
open Go.RowKit

theorem putN_pos {n t first : Nat} (h : ¬ n < 2 ^ t - 1) : putN n t first = UInt8.ofNat (first + (2 ^ t - 1)) :: cont (n - (2 ^ t - 1)) := by rw [putN, if_neg h]
theorem putN_one {n t first : Nat} (h : n < 2 ^ t - 1) : putN n t first = [UInt8.ofNat (first + n)] := by rw [putN, if_pos h]
theorem bs_single (c : UInt8) (z : Int) (h : (c.toNat : Int) = z) : bs [c] = [.int .u8 z] := by simp [bs, h]
theorem wput_one (n f t : Nat) (ht : 1 ≤ t) (ht8 : t ≤ 8) (hf : f ≤ 255) (hf0 : f % 2 ^ t = 0) (hlt : n < 2 ^ t - 1) (w : World) :
    Calls Tryz.prog 87 #[.int .i64 n, .int .i64 t, .int .i64 f] w fun e w' => ∃ v, e = .returned (.tuple #[v, .nilIface]) ∧ w'.ownsRow w.heap.size 5 1 v (putN n t f).length (bs (putN n t f)) ∧ Below w.heap.size w w' := by
  have hp := pow2_bounds ht ht8
  rw [putN_one hlt]
  have HS := Lib.hid (wrap64_pow t ht8)
  have HMK := Lib.hid (i64_mask f t (by omega) (by omega))
  have hq : f = f / 2 ^ t * 2 ^ t := by
    have := Nat.div_add_mod f (2 ^ t)
    rw [hf0, Nat.mul_comm] at this
    omega
  have hsum : f + n ≤ 255 := by
    have h1 : f / 2 ^ t * 2 ^ t + 2 ^ t ≤ 256 := by
      rcases (by omega : t = 1 ∨ t = 2 ∨ t = 3 ∨ t = 4 ∨ t = 5 ∨ t = 6 ∨ t = 7 ∨ t = 8) with rfl | rfl | rfl | rfl | rfl | rfl | rfl | rfl <;> simp only [Nat.reducePow] at * <;> omega
    omega
  have HOR := Lib.hid (i64_or_low (f / 2 ^ t) n t (by omega) (by omega) (by omega))
  rw [hf0] at HMK
  rw [← hq] at HOR
  clear hq hf0
  generalize 2 ^ t = p at *
  have h1 : (n : Int) < (p : Int) - 1 := by omega
  have hs := HS.out
  have hmk := HMK.out
  have hor := HOR.out
  clear HS HMK HOR hlt
  go_enter Tryz.func87, Tryz.ntmps87
  go_wp2
  go_ret2
  refine ⟨_, rfl, own_new w _ _ _ 1 ?_ (by simp [bs]) (by decide), (Below.refl _ _).alloc (Nat.le_refl _) _⟩
  rw [bs_single (UInt8.ofNat (f + n)) ((f : Int) + n) (by simp only [UInt8.toNat_ofNat']; omega)]

set_option maxRecDepth 100000 in
set_option maxHeartbeats 1000000 in
theorem wput_more (n f t : Nat) (ht : 1 ≤ t) (ht8 : t ≤ 8) (hn : n ≤ 2147483647) (hf : f ≤ 255) (hf0 : f % 2 ^ t = 0) (hlt : ¬ n < 2 ^ t - 1) (w : World) :
    Calls Tryz.prog 87 #[.int .i64 n, .int .i64 t, .int .i64 f] w fun e w' => ∃ v, e = .returned (.tuple #[v, .nilIface]) ∧ w'.ownsRow w.heap.size 5 1 v (putN n t f).length (bs (putN n t f)) ∧ Below w.heap.size w w' := by
  have hp := pow2_bounds ht ht8
  have HL := Lib.hid (putN_pos (first := f) hlt)
  generalize putN n t f = L at *
  have HS := Lib.hid (wrap64_pow t ht8)
  have HMK := Lib.hid (i64_mask f t (by omega) (by omega))
  have hq : f = f / 2 ^ t * 2 ^ t := by
    have := Nat.div_add_mod f (2 ^ t)
    rw [hf0, Nat.mul_comm] at this
    omega
  have hsum : f + (2 ^ t - 1) ≤ 255 := by
    have h1 : f / 2 ^ t * 2 ^ t + 2 ^ t ≤ 256 := by
      rcases (by omega : t = 1 ∨ t = 2 ∨ t = 3 ∨ t = 4 ∨ t = 5 ∨ t = 6 ∨ t = 7 ∨ t = 8) with rfl | rfl | rfl | rfl | rfl | rfl | rfl | rfl <;> simp only [Nat.reducePow] at * <;> omega
    omega
  have hor0 := i64_or_low (f / 2 ^ t) (2 ^ t - 1) t (by omega) (by omega) (by omega)
  rw [← hq, show ((2 ^ t - 1 : Nat) : Int) = ((2 ^ t : Nat) : Int) - 1 by omega] at hor0
  have HOR := Lib.hid hor0
  rw [hf0] at HMK
  clear hq hf0 hor0
  generalize 2 ^ t = p at *
  have h1 : decide ((n : Int) < (p : Int) - 1) = false := by simp; omega
  have ht1 : decide ((t : Int) < 1) = false := by simp; omega
  have ht9 : decide ((8 : Int) < (t : Int)) = false := by simp; omega
  have hn9 : decide ((2147483647 : Int) < (n : Int)) = false := by simp; omega
  have hf9 : decide ((255 : Int) < (f : Int)) = false := by simp; omega
  have hs := HS.out
  have hmk := HMK.out
  have hor := HOR.out
  clear HS HMK HOR
  go_enter Tryz.func87, Tryz.ntmps87
  go_wp2
  clear hs hmk hor
  go_loopw [0, 9] (fun x b wr => ∃ (m : Nat) (xs : List UInt8), x = .int .i64 m ∧ 1 ≤ xs.length ∧ xs.length + m ≤ 2147483648 ∧ wr.ownsRow w.heap.size 5 1 b xs.length (bs xs) ∧ Below w.heap.size w wr ∧ Hid (xs ++ cont m = L)) (fun x _ _ => (intOf x).toNat)
  case atStart =>
    refine ⟨n - (p - 1), [UInt8.ofNat (f + (p - 1))], by go_num, by simp, by simp; omega, ?_, (Below.refl _ _).alloc (Nat.le_refl _) _, HL.out.symm⟩
    refine own_new w _ _ _ 1 ?_ (by simp [bs]) (by decide)
    rw [bs_single (UInt8.ofNat (f + (p - 1))) ((f : Int) + ((p : Int) - 1)) (by simp only [UInt8.toNat_ofNat']; omega)]
    first | rfl | (simp; omega)
  case round =>
    obtain ⟨m, xs, rfl, hx1, hxm, hown, hb, HX⟩ := hrel
    clear HL
    have hsz := hb.size
    by_cases hge : m < 128
    · have hm : (m : Int) % 256 = m := by omega
      have e := HX.out
      rw [cont_last hge] at e
      have HE := Lib.hid e
      clear e HX hn9 hf9 ht1 ht9 h1
      go_wp2_with (at_builtin; refine wpList_push rfl _ _ rfl w.heap.size _ _ _ rfl hown rfl rfl (by omega) hsz ?_; intro v' w' hown' hb')
      go_ret2
      refine ⟨_, rfl, ?_, hb.trans hb'⟩
      rw [← HE.out, bs_append, List.length_append]
      rw [bs_single (UInt8.ofNat m) (m : Int) (by simp only [UInt8.toNat_ofNat']; omega)]
      exact hown'
    · have e := HX.out
      rw [cont_more hge] at e
      have HE := Lib.hid e
      clear e HX
      have hor := u8_or_high (m % 256) (by omega)
      rw [show ((m % 256 : Nat) : Int) = (m : Int) % 256 by omega, show m % 256 % 128 = m % 128 by omega] at hor
      go_wp2_with (at_builtin; refine wpList_push rfl _ _ rfl w.heap.size _ _ _ rfl hown rfl rfl (by omega) hsz ?_; intro v' w' hown' hb')
      go_roundw
      case rel =>
        refine ⟨m / 128, xs ++ [UInt8.ofNat (m % 128 + 128)], by go_num, by simp, by simp; omega, ?_, hb.trans hb', ?_⟩
        · rw [bs_append, List.length_append]
          rw [bs_single (UInt8.ofNat (m % 128 + 128)) ((m % 128 + 128 : Nat) : Int) (by simp only [UInt8.toNat_ofNat']; omega)]
          exact hown'
        · show _ = _
          rw [List.append_assoc]
          exact HE.out
      case measure => simp [intOf]; omega

theorem wput_bad (n bits first : Int) (hb : ¬ putOk n bits first) (w : World) :
    Calls Tryz.prog 87 #[.int .i64 n, .int .i64 bits, .int .i64 first] w fun e w' => e = .returned (.tuple #[.slice none 0 0, .iface 95 (.int .i64 1)]) ∧ w = w' := by
  by_cases h1 : bits < 1
  · clear hb
    go_enter Tryz.func87, Tryz.ntmps87
    go_wp2
    go_ret2
    exact ⟨rfl, rfl⟩
  by_cases h8 : 8 < bits
  · clear hb
    go_enter Tryz.func87, Tryz.ntmps87
    go_wp2
    go_ret2
    exact ⟨rfl, rfl⟩
  by_cases h0 : n < 0
  · clear hb
    go_enter Tryz.func87, Tryz.ntmps87
    go_wp2
    go_ret2
    exact ⟨rfl, rfl⟩
  by_cases hM : 2147483647 < n
  · clear hb
    go_enter Tryz.func87, Tryz.ntmps87
    go_wp2
    go_ret2
    exact ⟨rfl, rfl⟩
  by_cases hf : first < 0
  · clear hb
    go_enter Tryz.func87, Tryz.ntmps87
    go_wp2
    go_ret2
    exact ⟨rfl, rfl⟩
  by_cases hf5 : 255 < first
  · clear hb
    go_enter Tryz.func87, Tryz.ntmps87
    go_wp2
    go_ret2
    exact ⟨rfl, rfl⟩
  have hne : ¬ first % 2 ^ bits.toNat = 0 := fun h => hb ⟨by omega, by omega, by omega, by omega, by omega, by omega, h⟩
  clear hb
  obtain ⟨t, rfl⟩ := Int.eq_ofNat_of_zero_le (show 0 ≤ bits by omega)
  obtain ⟨f, rfl⟩ := Int.eq_ofNat_of_zero_le (show 0 ≤ first by omega)
  rw [Int.toNat_natCast] at hne
  have hne2 : ¬ f % 2 ^ t = 0 := by
    intro h
    apply hne
    have := Int.natCast_emod f (2 ^ t)
    rw [h] at this
    simpa using this.symm
  have hp := pow2_bounds (show 1 ≤ t by omega) (show t ≤ 8 by omega)
  clear hne
  have HS := Lib.hid (wrap64_pow t (by omega))
  have HMK := Lib.hid (i64_mask f t (by omega) (by omega))
  generalize f % 2 ^ t = x at *
  generalize 2 ^ t = p at *
  have hx : ((x : Int) == 0) = false := by simp; omega
  have hs := HS.out
  have hmk := HMK.out
  clear HS HMK hne2
  go_enter Tryz.func87, Tryz.ntmps87
  go_wp2
  go_ret2
  exact ⟨rfl, rfl⟩

theorem wput_any (n bits first : Int) (w : World) :
    Calls Tryz.prog 87 #[.int .i64 n, .int .i64 bits, .int .i64 first] w fun e w' => ∃ v, e = .returned (.tuple #[v, errV (putE n bits first)]) ∧ w'.ownsRow w.heap.size 5 1 v (putL n bits first).length (bs (putL n bits first)) ∧ Below w.heap.size w w' := by
  by_cases h : putOk n bits first
  · have e1 : putE n bits first = 0 := by simp [putE, h]
    have e2 : putL n bits first = putN n.toNat bits.toNat first.toNat := by simp [putL, h]
    rw [e1, e2]
    obtain ⟨h1, h8, h0, hM, hf0, hf5, hmod⟩ := h
    obtain ⟨m, rfl⟩ := Int.eq_ofNat_of_zero_le h0
    obtain ⟨t, rfl⟩ := Int.eq_ofNat_of_zero_le (show 0 ≤ bits by omega)
    obtain ⟨f, rfl⟩ := Int.eq_ofNat_of_zero_le hf0
    simp only [Int.toNat_natCast] at *
    have hmod2 : f % 2 ^ t = 0 := by
      have h2 := Int.natCast_emod f (2 ^ t)
      have h3 : ((f : Int) % ((2 ^ t : Nat) : Int)) = 0 := by simpa using hmod
      omega
    by_cases hlt : m < 2 ^ t - 1
    · exact wput_one m f t (by omega) (by omega) (by omega) hmod2 hlt w
    · exact wput_more m f t (by omega) (by omega) (by omega) (by omega) hmod2 hlt w
  · have e1 : putE n bits first = 1 := by simp [putE, h]
    have e2 : putL n bits first = [] := by simp [putL, h]
    rw [e1, e2]
    refine (wput_bad n bits first h w).mono ?_
    rintro e w' ⟨he, rfl⟩
    exact ⟨_, he, World.ownsRow_nil _ _ _ _, Below.refl _ _⟩
end Go.Proofs.YtbgnggkgmeagkaaGreatDoor
