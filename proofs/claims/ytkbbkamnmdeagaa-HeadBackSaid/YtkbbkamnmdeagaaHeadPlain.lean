/-
  Plain law: texts and lists of fields as bytes, and back. Nothing of the program.
-/
import Derived.Test.YtkbbkamnmdeagaaVarLaw
import Derived.Test.YtkbbkamnmdeagaaCodeDec
import Derived.Test.YtkbbkamnmdeagaaTab
namespace Go.Proofs.Ytkbbkamnmdeagaa

/-! ### texts -/
/-- What a text's bytes hold behind the number: the text itself, or its code where that is shorter. -/
def txtC (l : List UInt8) : List UInt8 := if l.length ≤ (enc l).length then l else enc l
def txtF (l : List UInt8) : Int := if l.length ≤ (enc l).length then 0 else 128
def txtL (l : List UInt8) : List UInt8 := if 400 < l.length then [] else putL ((txtC l).length : Nat) 7 (txtF l) ++ txtC l
def txtE (l : List UInt8) : Nat := if 400 < l.length then 4 else 0
theorem txtC_le (l : List UInt8) : (txtC l).length ≤ l.length := by
  unfold txtC
  split <;> omega
theorem txt_putOk (l : List UInt8) (h : l.length ≤ 400) : putOk ((txtC l).length : Nat) 7 (txtF l) := by
  have hc := txtC_le l
  unfold putOk txtF
  split <;> simp <;> omega
theorem txt_putE (l : List UInt8) (h : l.length ≤ 400) : putE ((txtC l).length : Nat) 7 (txtF l) = 0 := by
  rw [putE, if_pos (txt_putOk l h)]
theorem txt_putL_len (n : Nat) (f : Int) (h : n ≤ 2147483647) : (putL (n : Nat) 7 f).length ≤ 1000 := by
  unfold putL
  split
  · have := putN_len6 (n : Int).toNat (7 : Int).toNat (by omega) f.toNat
    omega
  · simp
/-- The text that bytes begin with, how many they are; the fault. -/
def readT (l : List UInt8) : List UInt8 × Nat × Nat :=
  if (getV l 7).2.2 ≠ 0 then ([], 0, (getV l 7).2.2)
  else if 400 < (getV l 7).1 then ([], 0, 4)
  else if l.length < (getV l 7).2.1 + (getV l 7).1 then ([], 0, 8)
  else match (if 128 ≤ (l.headD 0).toNat then decode ((l.drop (getV l 7).2.1).take (getV l 7).1) else some ((l.drop (getV l 7).2.1).take (getV l 7).1)) with
    | none => ([], 0, 2)
    | some s => if 400 < s.length then ([], 0, 4) else if txtL s = l.take ((getV l 7).2.1 + (getV l 7).1) then (s, (getV l 7).2.1 + (getV l 7).1, 0) else ([], 0, 2)

theorem putN_cons (n t f : Nat) : ∃ r, putN n t f = UInt8.ofNat (f + if n < 2 ^ t - 1 then n else 2 ^ t - 1) :: r ∧ putN n t 0 = UInt8.ofNat (if n < 2 ^ t - 1 then n else 2 ^ t - 1) :: r := by
  by_cases h : n < 2 ^ t - 1
  · exact ⟨[], by simp [putN, h], by simp [putN, h]⟩
  · exact ⟨cont (n - (2 ^ t - 1)), by simp [putN, h], by simp [putN, h]⟩
theorem high_low (t f m : Nat) (ht : 1 ≤ t) (ht8 : t ≤ 8) (hf : f % 2 ^ t = 0) (hf2 : f ≤ 255) (hm : m < 2 ^ t) : f + m < 256 ∧ (f + m) % 2 ^ t = m := by
  rcases (by omega : t = 1 ∨ t = 2 ∨ t = 3 ∨ t = 4 ∨ t = 5 ∨ t = 6 ∨ t = 7 ∨ t = 8) with rfl | rfl | rfl | rfl | rfl | rfl | rfl | rfl <;> simp at * <;> omega
theorem getV_low {c d : UInt8} (r : List UInt8) (t : Int) (h : c.toNat % 2 ^ t.toNat = d.toNat % 2 ^ t.toNat) : getV (c :: r) t = getV (d :: r) t := by
  simp only [getV, h]
/-- A number behind the high bits of a byte is read, whatever stands behind it; the first byte. -/
theorem getV_high (n t f : Nat) (b : List UInt8) (ht : 1 ≤ t) (ht8 : t ≤ 8) (hn : n ≤ 2147483647) (hf : f % 2 ^ t = 0) (hf2 : f ≤ 255) :
    getV (putN n t f ++ b) (t : Int) = (n, (putN n t f).length, 0) ∧ f ≤ ((putN n t f ++ b).headD 0).toNat ∧ ((putN n t f ++ b).headD 0).toNat < f + 2 ^ t ∧ putN n t f ≠ [] := by
  obtain ⟨r, h1, h2⟩ := putN_cons n t f
  have hp := pow2_bounds ht ht8
  have hg := getV_put n t b ht ht8 hn
  have hl : (putN n t 0).length = (putN n t f).length := by rw [h1, h2]; rfl
  obtain ⟨m, hm⟩ : ∃ m, (if n < 2 ^ t - 1 then n else 2 ^ t - 1) = m := ⟨_, rfl⟩
  have hm2 : m < 2 ^ t := by
    rw [← hm]
    split <;> omega
  rw [hm] at h1 h2
  obtain ⟨e1, e2⟩ := high_low t f m ht ht8 hf hf2 hm2
  have t1 := toNat_ofNat_lt e1
  have t2 := toNat_ofNat_lt (show m < 256 by omega)
  refine ⟨?_, ?_, ?_, by rw [h1]; simp⟩
  · rw [← hl, ← hg, h1, h2]
    simp only [List.cons_append]
    refine getV_low _ _ ?_
    rw [Int.toNat_natCast, t1, t2, e2, Nat.mod_eq_of_lt hm2]
  · rw [h1, List.cons_append, List.headD_cons, t1]
    omega
  · rw [h1, List.cons_append, List.headD_cons, t1]
    omega

theorem txtL_ok (s : List UInt8) (h : s.length ≤ 400) : txtL s = putN (txtC s).length 7 (txtF s).toNat ++ txtC s := by
  have hk := txt_putOk s h
  unfold txtL
  rw [if_neg (by omega), putL, if_pos hk]
  rfl
/-- EVERY TEXT COMES BACK, whatever stands behind it. -/
theorem readT_txt (s b : List UInt8) (h : s.length ≤ 400) : readT (txtL s ++ b) = (s, (txtL s).length, 0) := by
  have hC := txtC_le s
  have hk := txtL_ok s h
  have hF : (txtF s).toNat % 2 ^ 7 = 0 ∧ (txtF s).toNat ≤ 255 := by
    unfold txtF
    split <;> simp
  obtain ⟨g1, g2, g3, _⟩ := getV_high (txtC s).length 7 (txtF s).toNat (txtC s ++ b) (by omega) (by omega) (by omega) hF.1 hF.2
  have e : txtL s ++ b = putN (txtC s).length 7 (txtF s).toNat ++ (txtC s ++ b) := by rw [hk, List.append_assoc]
  have hlen : (txtL s).length = (putN (txtC s).length 7 (txtF s).toNat).length + (txtC s).length := by rw [hk, List.length_append]
  have g1' : getV (txtL s ++ b) 7 = ((txtC s).length, (putN (txtC s).length 7 (txtF s).toNat).length, 0) := by rw [e]; exact g1
  have hd : ((txtL s ++ b).drop (putN (txtC s).length 7 (txtF s).toNat).length).take (txtC s).length = txtC s := by
    rw [e, List.drop_left, List.take_left]
  have ht : (txtL s ++ b).take ((putN (txtC s).length 7 (txtF s).toNat).length + (txtC s).length) = txtL s := by
    rw [← hlen, List.take_left]
  rw [← e] at g2 g3
  unfold readT
  simp only [g1', hd, ht]
  rw [if_neg (by simp), if_neg (by omega), if_neg (by rw [List.length_append]; omega)]
  by_cases hle : s.length ≤ (enc s).length
  · have hFz : (txtF s).toNat = 0 := by simp [txtF, hle]
    have hCs : txtC s = s := by simp [txtC, hle]
    rw [if_neg (by omega)]
    rw [hCs] at hlen ⊢
    simp only
    rw [if_neg (by omega), if_pos trivial, hlen]
  · have hFz : (txtF s).toNat = 128 := by simp [txtF, hle]
    have hCs : txtC s = enc s := by simp [txtC, hle]
    rw [if_pos (by omega), hCs, decode_enc]
    simp only
    rw [if_neg (by omega), if_pos trivial, hlen, hCs]
/-- What is read takes at least a byte, and no more than there are. -/
theorem getV_used {l : List UInt8} {t : Int} (h : (getV l t).2.2 = 0) : 1 ≤ (getV l t).2.1 ∧ (getV l t).2.1 ≤ l.length ∧ (getV l t).1 ≤ 2147483647 := by
  match l, h with
  | [], h =>
    simp only [getV] at h
    split at h <;> simp at h
  | c :: r, h =>
    obtain ⟨N, U, hV⟩ : ∃ N U, getV (c :: r) t = (N, U, 0) := ⟨_, _, by rw [← h]⟩
    obtain ⟨_, _, hN, hU, hU2, _⟩ := put_getV c r t N U hV
    rw [hV]
    exact ⟨hU, by simpa using hU2, hN⟩
theorem readT_used {l : List UInt8} (h : (readT l).2.2 = 0) : 1 ≤ (readT l).2.1 ∧ (readT l).2.1 ≤ l.length ∧ (readT l).1.length ≤ 400 := by
  unfold readT at h ⊢
  by_cases h1 : (getV l 7).2.2 ≠ 0
  · rw [if_pos h1] at h
    exact absurd h h1
  have hu := getV_used (Decidable.not_not.1 h1)
  rw [if_neg h1] at h ⊢
  by_cases h2 : 400 < (getV l 7).1
  · rw [if_pos h2] at h; simp at h
  rw [if_neg h2] at h ⊢
  by_cases h3 : l.length < (getV l 7).2.1 + (getV l 7).1
  · rw [if_pos h3] at h; simp at h
  rw [if_neg h3] at h ⊢
  split at h
  · simp at h
  · rename_i s hs
    by_cases h4 : 400 < s.length
    · rw [if_pos h4] at h; simp at h
    rw [if_neg h4] at h ⊢
    by_cases h5 : txtL s = l.take ((getV l 7).2.1 + (getV l 7).1)
    · rw [if_pos h5]
      simp only
      exact ⟨by omega, by omega, by omega⟩
    · rw [if_neg h5] at h; simp at h

/-! ### lists of fields: said -/
/-- One field: its bytes; the table behind it. -/
def saidF (_mx : Nat) (xs : List Fld) (f : Fld) : List UInt8 :=
  if fnd (isF f) (tAll xs) ≠ 0 then putL (fnd (isF f) (tAll xs) : Nat) 7 128
  else putL (fnd (isN f) (tAll xs) : Nat) 6 64 ++ (if fnd (isN f) (tAll xs) = 0 then txtL f.1 else []) ++ txtL f.2
def nextF (mx : Nat) (xs : List Fld) (f : Fld) : List Fld := if fnd (isF f) (tAll xs) ≠ 0 then xs else tAdd mx xs f
def saidL (mx : Nat) : List Fld → List Fld → List UInt8
  | _, [] => []
  | xs, f :: l => saidF mx xs f ++ saidL mx (nextF mx xs f) l
def nextL (mx : Nat) : List Fld → List Fld → List Fld
  | xs, [] => xs
  | xs, f :: l => nextL mx (nextF mx xs f) l
def leastP (p : Nat) (r : List Nat) : Nat := r.foldl min p
def saidP : List Nat → List UInt8
  | [] => []
  | p :: r => putL (leastP p r : Nat) 5 32 ++ (if leastP p r < (p :: r).getLast (by simp) then putL ((p :: r).getLast (by simp) : Nat) 5 32 else [])
/-- There would be more than may be. -/
def tooMuch (l : List Fld) : Bool := decide (40 < l.length) || decide (2000 < wt l)
def tooLong (l : List Fld) : Bool := l.any fun f => decide (400 < f.1.length) || decide (400 < f.2.length)
def saidE (l : List Fld) : Nat := if tooMuch l || tooLong l then 4 else 0

/-! ### lists of fields: heard -/
def litV (xs : List Fld) (b : List UInt8) (t : Int) : Fld × Nat × Nat :=
  if (getV b t).2.2 ≠ 0 then (([], []), 0, (getV b t).2.2)
  else if 12 + xs.length < (getV b t).1 then (([], []), 0, 5)
  else if 0 < (getV b t).1 then
    if (readT (b.drop (getV b t).2.1)).2.2 ≠ 0 then (([], []), 0, (readT (b.drop (getV b t).2.1)).2.2)
    else ((((tAll xs).getD ((getV b t).1 - 1) ([], [])).1, (readT (b.drop (getV b t).2.1)).1), (getV b t).2.1 + (readT (b.drop (getV b t).2.1)).2.1, 0)
  else if (readT (b.drop (getV b t).2.1)).2.2 ≠ 0 then (([], []), 0, (readT (b.drop (getV b t).2.1)).2.2)
  else if (readT (b.drop ((getV b t).2.1 + (readT (b.drop (getV b t).2.1)).2.1))).2.2 ≠ 0 then (([], []), 0, (readT (b.drop ((getV b t).2.1 + (readT (b.drop (getV b t).2.1)).2.1))).2.2)
  else (((readT (b.drop (getV b t).2.1)).1, (readT (b.drop ((getV b t).2.1 + (readT (b.drop (getV b t).2.1)).2.1))).1),
    (getV b t).2.1 + (readT (b.drop (getV b t).2.1)).2.1 + (readT (b.drop ((getV b t).2.1 + (readT (b.drop (getV b t).2.1)).2.1))).2.1, 0)
/-- One step behind a piece that is read: fault, table, its greatest size, fields, bytes. -/
structure Step where
  e : Nat
  xs : List Fld
  mx : Nat
  l : List Fld
  n : Nat
def pushF (xs : List Fld) (mx : Nat) (l : List Fld) (f : Fld) (n : Nat) : Step := if tooMuch (l ++ [f]) then ⟨4, xs, mx, [], 0⟩ else ⟨0, xs, mx, l ++ [f], n⟩
def heardS (most : Nat) (xs : List Fld) (mx : Nat) (l : List Fld) (b : List UInt8) : Step :=
  if 128 ≤ (b.headD 0).toNat then
    if (getV b 7).2.2 ≠ 0 then ⟨(getV b 7).2.2, xs, mx, [], 0⟩
    else if (getV b 7).1 < 1 ∨ 12 + xs.length < (getV b 7).1 then ⟨5, xs, mx, [], 0⟩
    else pushF xs mx l ((tAll xs).getD ((getV b 7).1 - 1) ([], [])) (getV b 7).2.1
  else if 64 ≤ (b.headD 0).toNat then
    if (litV xs b 6).2.2 ≠ 0 then ⟨(litV xs b 6).2.2, xs, mx, [], 0⟩ else pushF (tAdd mx xs (litV xs b 6).1) mx l (litV xs b 6).1 (litV xs b 6).2.1
  else if 32 ≤ (b.headD 0).toNat then
    if (getV b 5).2.2 ≠ 0 then ⟨(getV b 5).2.2, xs, mx, [], 0⟩
    else if most < (getV b 5).1 then ⟨1, xs, mx, [], 0⟩
    else if 0 < l.length then ⟨6, xs, mx, [], 0⟩
    else ⟨0, shr (getV b 5).1 xs, (getV b 5).1, l, (getV b 5).2.1⟩
  else if (litV xs b 4).2.2 ≠ 0 then ⟨(litV xs b 4).2.2, xs, mx, [], 0⟩ else pushF xs mx l (litV xs b 4).1 (litV xs b 4).2.1
def heard (most : Nat) (xs : List Fld) (mx : Nat) (l : List Fld) (b : List UInt8) : Step :=
  if b = [] then ⟨0, xs, mx, l, 0⟩
  else if (heardS most xs mx l b).e ≠ 0 then heardS most xs mx l b
  else if _hn : (heardS most xs mx l b).n = 0 ∨ b.length < (heardS most xs mx l b).n then ⟨0, xs, mx, l, 0⟩
  else heard most (heardS most xs mx l b).xs (heardS most xs mx l b).mx (heardS most xs mx l b).l (b.drop (heardS most xs mx l b).n)
termination_by b.length
decreasing_by
  rw [List.length_drop]
  omega
theorem litV_used {xs : List Fld} {b : List UInt8} {t : Int} (h : (litV xs b t).2.2 = 0) : 1 ≤ (litV xs b t).2.1 ∧ (litV xs b t).2.1 ≤ b.length := by
  unfold litV at h ⊢
  by_cases h1 : (getV b t).2.2 ≠ 0
  · rw [if_pos h1] at h
    exact absurd h h1
  have hu := getV_used (Decidable.not_not.1 h1)
  rw [if_neg h1] at h ⊢
  by_cases h2 : 12 + xs.length < (getV b t).1
  · rw [if_pos h2] at h; simp at h
  rw [if_neg h2] at h ⊢
  by_cases h3 : (readT (b.drop (getV b t).2.1)).2.2 ≠ 0
  · rw [if_pos h3, if_pos h3] at h
    split at h <;> exact absurd h h3
  have hu2 := readT_used (Decidable.not_not.1 h3)
  rw [List.length_drop] at hu2
  rw [if_neg h3, if_neg h3] at h ⊢
  by_cases h4 : 0 < (getV b t).1
  · rw [if_pos h4]
    simp only
    omega
  rw [if_neg h4] at h ⊢
  by_cases h5 : (readT (b.drop ((getV b t).2.1 + (readT (b.drop (getV b t).2.1)).2.1))).2.2 ≠ 0
  · rw [if_pos h5] at h
    exact absurd h h5
  have hu3 := readT_used (Decidable.not_not.1 h5)
  rw [List.length_drop] at hu3
  rw [if_neg h5]
  simp only
  omega
theorem pushF_e (xs : List Fld) (mx : Nat) (l : List Fld) (f : Fld) (n : Nat) (h : (pushF xs mx l f n).e = 0) : (pushF xs mx l f n).n = n := by
  unfold pushF at h ⊢
  split at h
  · simp at h
  · rename_i h1
    rw [if_neg h1]
theorem heardS_used {most : Nat} {xs : List Fld} {mx : Nat} {l : List Fld} {b : List UInt8} (h : (heardS most xs mx l b).e = 0) : 1 ≤ (heardS most xs mx l b).n ∧ (heardS most xs mx l b).n ≤ b.length := by
  unfold heardS at h ⊢
  by_cases c1 : 128 ≤ (b.headD 0).toNat
  · rw [if_pos c1] at h ⊢
    by_cases h1 : (getV b 7).2.2 ≠ 0
    · rw [if_pos h1] at h; exact absurd h h1
    have hu := getV_used (Decidable.not_not.1 h1)
    rw [if_neg h1] at h ⊢
    by_cases h2 : (getV b 7).1 < 1 ∨ 12 + xs.length < (getV b 7).1
    · rw [if_pos h2] at h; simp at h
    rw [if_neg h2] at h ⊢
    rw [pushF_e _ _ _ _ _ h]
    omega
  rw [if_neg c1] at h ⊢
  by_cases c2 : 64 ≤ (b.headD 0).toNat
  · rw [if_pos c2] at h ⊢
    by_cases h1 : (litV xs b 6).2.2 ≠ 0
    · rw [if_pos h1] at h; exact absurd h h1
    rw [if_neg h1] at h ⊢
    rw [pushF_e _ _ _ _ _ h]
    exact litV_used (Decidable.not_not.1 h1)
  rw [if_neg c2] at h ⊢
  by_cases c3 : 32 ≤ (b.headD 0).toNat
  · rw [if_pos c3] at h ⊢
    by_cases h1 : (getV b 5).2.2 ≠ 0
    · rw [if_pos h1] at h; exact absurd h h1
    have hu := getV_used (Decidable.not_not.1 h1)
    rw [if_neg h1] at h ⊢
    by_cases h2 : most < (getV b 5).1
    · rw [if_pos h2] at h; simp at h
    rw [if_neg h2] at h ⊢
    by_cases h3 : 0 < l.length
    · rw [if_pos h3] at h; simp at h
    rw [if_neg h3]
    exact ⟨hu.1, hu.2.1⟩
  rw [if_neg c3] at h ⊢
  by_cases h1 : (litV xs b 4).2.2 ≠ 0
  · rw [if_pos h1] at h; exact absurd h h1
  rw [if_neg h1] at h ⊢
  rw [pushF_e _ _ _ _ _ h]
  exact litV_used (Decidable.not_not.1 h1)
theorem heard_nil (most : Nat) (xs : List Fld) (mx : Nat) (l : List Fld) : heard most xs mx l [] = ⟨0, xs, mx, l, 0⟩ := by rw [heard, if_pos rfl]
theorem heard_fault {most : Nat} {xs : List Fld} {mx : Nat} {l : List Fld} {b : List UInt8} (hb : b ≠ []) (h : (heardS most xs mx l b).e ≠ 0) : heard most xs mx l b = heardS most xs mx l b := by
  rw [heard, if_neg hb, if_pos h]
theorem heard_next {most : Nat} {xs : List Fld} {mx : Nat} {l : List Fld} {b : List UInt8} (hb : b ≠ []) (h : (heardS most xs mx l b).e = 0) :
    heard most xs mx l b = heard most (heardS most xs mx l b).xs (heardS most xs mx l b).mx (heardS most xs mx l b).l (b.drop (heardS most xs mx l b).n) := by
  have hu := heardS_used h
  rw [heard, if_neg hb, if_neg (by omega), dif_neg (by omega)]
end Go.Proofs.Ytkbbkamnmdeagaa
