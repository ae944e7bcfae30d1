/-
  Plain law: what one coder says the other one hears: lists of fields, sizes between. Nothing of the program.
  Slices that are handed together: where they lie, how many elements they have in all. Nothing of the program.
-/
import Derived.Test.YtkbbkamnmdeagaaDoorMHeadPlays03
import Derived.Lib.AppendZeros
namespace Go.Proofs.YtkbbkamnmdeagaaDoor

theorem wt_take_mono (xs : List Fld) {a b : Nat} (h : a ≤ b) : wt (xs.take a) ≤ wt (xs.take b) := by
  have h1 := wt_take_le (xs.take b) a
  rwa [List.take_take, Nat.min_eq_left h] at h1
theorem shrN_is {most : Nat} {xs : List Fld} {m : Nat} : ∀ {n : Nat}, m ≤ n → wt (xs.take m) ≤ most → (m = n ∨ ¬ wt (xs.take (m + 1)) ≤ most) → shrN most xs n = m := by
  intro n
  induction n with
  | zero => intro h _ _; simp [shrN]; omega
  | succ n ih =>
    intro h h1 h2
    by_cases he : m = n + 1
    · subst he
      exact shrN_stay h1
    · have h3 := h2.resolve_left he
      have h4 := wt_take_mono xs (show m + 1 ≤ n + 1 by omega)
      rw [shrN_go (by omega)]
      exact ih (by omega) h1 (.inr h3)
theorem shrN_top (most : Nat) (xs : List Fld) (n : Nat) : shrN most xs n = n ∨ ¬ wt (xs.take (shrN most xs n + 1)) ≤ most := by
  induction n with
  | zero => left; rfl
  | succ n ih =>
    by_cases h : wt (xs.take (n + 1)) ≤ most
    · left; exact shrN_stay h
    · right
      rw [shrN_go h]
      rcases ih with ih | ih
      · rw [ih]; exact h
      · exact ih
theorem shr_shr (a b : Nat) (xs : List Fld) : shr a (shr b xs) = shr (min a b) xs := by
  obtain ⟨nb, hnb⟩ : ∃ nb, shrN b xs xs.length = nb := ⟨_, rfl⟩
  have hb1 : nb ≤ xs.length := by rw [← hnb]; exact shrN_le _ _ _
  have hb2 : wt (xs.take nb) ≤ b := by rw [← hnb]; exact shrN_wt _ _ _
  have hb3 : nb = xs.length ∨ ¬ wt (xs.take (nb + 1)) ≤ b := by rw [← hnb]; exact shrN_top _ _ _
  have e1 : shr b xs = xs.take nb := by unfold shr; rw [hnb]
  have hl : (xs.take nb).length = nb := by rw [List.length_take]; omega
  obtain ⟨na, hna⟩ : ∃ na, shrN a (xs.take nb) nb = na := ⟨_, rfl⟩
  have ha1 : na ≤ nb := by rw [← hna]; exact shrN_le _ _ _
  have ha2 : wt ((xs.take nb).take na) ≤ a := by rw [← hna]; exact shrN_wt _ _ _
  have ha3 : na = nb ∨ ¬ wt ((xs.take nb).take (na + 1)) ≤ a := by rw [← hna]; exact shrN_top _ _ _
  rw [List.take_take, Nat.min_eq_left ha1] at ha2
  have key : shrN (min a b) xs xs.length = na := by
    refine shrN_is (by omega) ?_ ?_
    · have := wt_take_mono xs ha1
      omega
    · by_cases h : na = nb
      · subst h
        rcases hb3 with h3 | h3
        · exact .inl h3
        · exact .inr (by omega)
      · have h4 := ha3.resolve_left h
        rw [List.take_take, Nat.min_eq_left (by omega)] at h4
        exact .inr (by omega)
  rw [e1]
  unfold shr
  rw [hl, hna, key, List.take_take, Nat.min_eq_left ha1]

/-! ### sizes -/
/-- What a table comes to, behind sizes. -/
def settle (ps : List Nat) (ys : List Fld) (my : Nat) : List Fld × Nat :=
  match ps with
  | [] => (ys, my)
  | p :: r => (shr (leastP p r) ys, (p :: r).getLast (by simp))
theorem foldl_min_snoc (p q : Nat) (r : List Nat) : leastP p (r ++ [q]) = min (leastP p r) q := by simp [leastP]
theorem settle_snoc (ps : List Nat) (q : Nat) (ys : List Fld) (my : Nat) : settle (ps ++ [q]) ys my = (shr q (settle ps ys my).1, q) := by
  cases ps with
  | nil => simp [settle, leastP]
  | cons p r =>
    simp only [settle, List.cons_append, foldl_min_snoc, shr_shr]
    rw [Nat.min_comm q]
    congr 1
    exact List.getLast_concat (l := p :: r) (a := q) ..
theorem leastP_le : ∀ (r : List Nat) (p : Nat), leastP p r ≤ p ∧ ∀ q ∈ r, leastP p r ≤ q := by
  intro r
  induction r with
  | nil => intro p; simp [leastP]
  | cons q r ih =>
    intro p
    have e : leastP p (q :: r) = leastP (min p q) r := rfl
    rw [e]
    obtain ⟨h1, h2⟩ := ih (min p q)
    refine ⟨by omega, fun x hx => ?_⟩
    rcases List.mem_cons.1 hx with rfl | hx
    · omega
    · exact h2 x hx
theorem leastP_last (p : Nat) (r : List Nat) : leastP p r ≤ (p :: r).getLast (by simp) := by
  have h := leastP_le r p
  have hm := List.getLast_mem (l := p :: r) (by simp)
  rcases List.mem_cons.1 hm with e | hm
  · rw [e]; exact h.1
  · exact h.2 _ hm

theorem putL_nat (n t f : Nat) (ht : 1 ≤ t) (ht8 : t ≤ 8) (hn : n ≤ 2147483647) (hf : f % 2 ^ t = 0) (hf2 : f ≤ 255) : putL (n : Int) (t : Int) (f : Int) = putN n t f := by
  have hk : putOk (n : Int) (t : Int) (f : Int) := by
    refine ⟨by omega, by omega, by omega, by omega, by omega, by omega, ?_⟩
    rw [Int.toNat_natCast]
    have e : ((2 : Int) ^ t) = ((2 ^ t : Nat) : Int) := by simp
    rw [e]
    omega
  rw [putL, if_pos hk, Int.toNat_natCast, Int.toNat_natCast, Int.toNat_natCast]
theorem putL7 (n : Nat) (hn : n ≤ 2147483647) : putL (n : Int) 7 128 = putN n 7 128 := putL_nat n 7 128 (by omega) (by omega) hn (by decide) (by omega)
theorem putL6 (n : Nat) (hn : n ≤ 2147483647) : putL (n : Int) 6 64 = putN n 6 64 := putL_nat n 6 64 (by omega) (by omega) hn (by decide) (by omega)
theorem heard_size (most : Nat) (ys : List Fld) (my p : Nat) (rest : List UInt8) (hp : p ≤ most) (hm : most ≤ 4096) :
    heard most ys my [] (putL (p : Nat) 5 32 ++ rest) = heard most (shr p ys) p [] rest := by
  have e := putL_nat p 5 32 (by omega) (by omega) (by omega) (by decide) (by omega)
  obtain ⟨g1, g2, g3, g4⟩ := getV_high p 5 32 rest (by omega) (by omega) (by omega) (by decide) (by omega)
  have e' : putL (p : Nat) 5 32 = putN p 5 32 := e
  rw [e']
  have hS : heardS most ys my [] (putN p 5 32 ++ rest) = ⟨0, shr p ys, p, [], (putN p 5 32).length⟩ := by
    have g1' : getV (putN p 5 32 ++ rest) 5 = (p, (putN p 5 32).length, 0) := g1
    unfold heardS
    rw [if_neg (by omega), if_neg (by omega), if_pos (by omega), g1']
    simp only
    rw [if_neg (by simp), if_neg (by omega), if_neg (by simp)]
  have h0 : putN p 5 32 ++ rest ≠ [] := by simp [g4]
  rw [heard_next h0 (by rw [hS]), hS]
  simp only [List.drop_left]
theorem heard_saidP (most : Nat) (ys : List Fld) (my : Nat) (ps : List Nat) (rest : List UInt8) (hp : ∀ p ∈ ps, p ≤ most) (hm : most ≤ 4096) :
    heard most ys my [] (saidP ps ++ rest) = heard most (settle ps ys my).1 (settle ps ys my).2 [] rest := by
  cases ps with
  | nil => rfl
  | cons p r =>
    have hl := leastP_le r p
    have hll := leastP_last p r
    have hlast : (p :: r).getLast (by simp) ≤ most := hp _ (List.getLast_mem _)
    have hp0 := hp p (by simp)
    simp only [saidP, settle]
    generalize (p :: r).getLast (by simp) = q at *
    generalize leastP p r = m at *
    rw [List.append_assoc, heard_size most ys my m _ (by omega) hm]
    by_cases h : m < q
    · rw [if_pos h, heard_size most (shr m ys) m q rest hlast hm, shr_of_le (show wt (shr m ys) ≤ q by have := wt_shr m ys; omega)]
    · rw [if_neg h, List.nil_append, show q = m by omega]

/-! ### fields -/
theorem tAll_at {p : Fld → Bool} {xs : List Fld} (h : fnd p (tAll xs) ≠ 0) : p ((tAll xs).getD (fnd p (tAll xs) - 1) ([], [])) = true ∧ fnd p (tAll xs) ≤ 12 + xs.length := by
  obtain ⟨hk, hp⟩ := fnd_some h
  refine ⟨?_, by rw [← tAll_len]; omega⟩
  rw [List.getD_eq_getElem?_getD, List.getElem?_eq_getElem hk, Option.getD_some]
  exact hp
theorem litV_said (xs : List Fld) (f : Fld) (rest : List UInt8) (hx : xs.length ≤ 4096) (h1 : f.1.length ≤ 400) (h2 : f.2.length ≤ 400) :
    litV xs (putN (fnd (isN f) (tAll xs)) 6 64 ++ (if fnd (isN f) (tAll xs) = 0 then txtL f.1 else []) ++ txtL f.2 ++ rest) 6 =
      (f, (putN (fnd (isN f) (tAll xs)) 6 64 ++ (if fnd (isN f) (tAll xs) = 0 then txtL f.1 else []) ++ txtL f.2).length, 0) := by
  have hle := fnd_le (isN f) (tAll xs)
  rw [tAll_len] at hle
  have hat := @tAll_at (isN f) xs
  generalize fnd (isN f) (tAll xs) = n at *
  obtain ⟨g1, _, _, _⟩ := getV_high n 6 64 ((if n = 0 then txtL f.1 else []) ++ (txtL f.2 ++ rest)) (by omega) (by omega) (by omega) (by decide) (by omega)
  have e : putN n 6 64 ++ (if n = 0 then txtL f.1 else []) ++ txtL f.2 ++ rest = putN n 6 64 ++ ((if n = 0 then txtL f.1 else []) ++ (txtL f.2 ++ rest)) := by
    simp only [List.append_assoc]
  have g1' : getV (putN n 6 64 ++ ((if n = 0 then txtL f.1 else []) ++ (txtL f.2 ++ rest))) 6 = (n, (putN n 6 64).length, 0) := g1
  rw [e]
  unfold litV
  simp only [g1', List.drop_left]
  rw [if_neg (by simp), if_neg (by omega)]
  by_cases hn : n = 0
  · have hr1 := readT_txt f.1 (txtL f.2 ++ rest) h1
    have hr2 := readT_txt f.2 rest h2
    have hd : (putN n 6 64 ++ (txtL f.1 ++ (txtL f.2 ++ rest))).drop ((putN n 6 64).length + (txtL f.1).length) = txtL f.2 ++ rest := by
      rw [← List.length_append, ← List.append_assoc, List.drop_left]
    rw [if_neg (by omega), if_pos hn, hr1]
    simp only [hd, hr2]
    rw [if_neg (by simp), if_neg (by simp)]
    simp only [List.length_append]
  · have hr := readT_txt f.2 rest h2
    obtain ⟨hat, _⟩ := hat hn
    rw [if_pos (by omega), if_neg hn, List.nil_append, hr]
    simp only
    rw [if_neg (by simp)]
    have hname : ((tAll xs).getD (n - 1) ([], [])).1 = f.1 := by simpa [isN] using hat
    rw [hname]
    simp only [List.length_append, List.append_nil]
theorem saidF_ne (mx : Nat) (xs : List Fld) (f : Fld) (hx : xs.length ≤ 4096) : saidF mx xs f ≠ [] := by
  have hle1 := fnd_le (isF f) (tAll xs)
  have hle2 := fnd_le (isN f) (tAll xs)
  rw [tAll_len] at hle1 hle2
  unfold saidF
  split
  · rw [putL7 _ (by omega)]
    exact (getV_high _ 7 128 [] (by omega) (by omega) (by omega) (by decide) (by omega)).2.2.2
  · rw [putL6 _ (by omega)]
    have := (getV_high (fnd (isN f) (tAll xs)) 6 64 [] (by omega) (by omega) (by omega) (by decide) (by omega)).2.2.2
    simp [this]
theorem heardS_said (most mx : Nat) (xs l : List Fld) (f : Fld) (rest : List UInt8) (hx : xs.length ≤ 4096) (h1 : f.1.length ≤ 400) (h2 : f.2.length ≤ 400) :
    heardS most xs mx l (saidF mx xs f ++ rest) = pushF (nextF mx xs f) mx l f (saidF mx xs f).length := by
  have hle1 := fnd_le (isF f) (tAll xs)
  have hle2 := fnd_le (isN f) (tAll xs)
  rw [tAll_len] at hle1 hle2
  by_cases hw : fnd (isF f) (tAll xs) ≠ 0
  · obtain ⟨hat, _⟩ := tAll_at hw
    have hf : (tAll xs).getD (fnd (isF f) (tAll xs) - 1) ([], []) = f := by simpa [isF] using hat
    have e : saidF mx xs f = putN (fnd (isF f) (tAll xs)) 7 128 := by
      rw [saidF, if_pos hw]
      exact putL7 _ (by omega)
    obtain ⟨g1, g2, g3, _⟩ := getV_high (fnd (isF f) (tAll xs)) 7 128 rest (by omega) (by omega) (by omega) (by decide) (by omega)
    have g1' : getV (putN (fnd (isF f) (tAll xs)) 7 128 ++ rest) 7 = (fnd (isF f) (tAll xs), (putN (fnd (isF f) (tAll xs)) 7 128).length, 0) := g1
    rw [e, nextF, if_pos hw]
    unfold heardS
    rw [if_pos (by omega), g1']
    simp only
    rw [if_neg (by simp), if_neg (by omega), hf]
  · have e : saidF mx xs f = putN (fnd (isN f) (tAll xs)) 6 64 ++ (if fnd (isN f) (tAll xs) = 0 then txtL f.1 else []) ++ txtL f.2 := by
      rw [saidF, if_neg hw]
      rw [putL6 _ (by omega)]
    have hl := litV_said xs f rest hx h1 h2
    obtain ⟨_, g2, g3, _⟩ := getV_high (fnd (isN f) (tAll xs)) 6 64 ((if fnd (isN f) (tAll xs) = 0 then txtL f.1 else []) ++ (txtL f.2 ++ rest)) (by omega) (by omega) (by omega) (by decide) (by omega)
    rw [← e] at hl
    have e2 : saidF mx xs f ++ rest = putN (fnd (isN f) (tAll xs)) 6 64 ++ ((if fnd (isN f) (tAll xs) = 0 then txtL f.1 else []) ++ (txtL f.2 ++ rest)) := by
      rw [e]; simp only [List.append_assoc]
    rw [← e2] at g2 g3
    unfold heardS
    rw [if_neg (by omega), if_pos (by omega), hl]
    simp only
    rw [if_neg (by simp), nextF, if_neg hw]
theorem tooMuch_mono {a b : List Fld} (h : tooMuch (a ++ b) = false) : tooMuch a = false := by
  simp only [tooMuch, Bool.or_eq_false_iff, decide_eq_false_iff_not, List.length_append, wt_append] at h ⊢
  omega
theorem wt_nextF (mx : Nat) (xs : List Fld) (f : Fld) (h : wt xs ≤ mx) : wt (nextF mx xs f) ≤ mx := by
  unfold nextF
  split
  · exact h
  · exact wt_tAdd mx xs f
theorem heard_said (most mx : Nat) (hm : mx ≤ 4096) : ∀ (l : List Fld) (xs acc : List Fld), wt xs ≤ mx → tooMuch (acc ++ l) = false → tooLong l = false →
    heard most xs mx acc (saidL mx xs l) = ⟨0, nextL mx xs l, mx, acc ++ l, 0⟩ := by
  intro l
  induction l with
  | nil =>
    intro xs acc _ _ _
    simp only [saidL, nextL, List.append_nil]
    exact heard_nil _ _ _ _
  | cons f l ih =>
    intro xs acc hx ht hl
    have hxl := wt_len xs
    simp only [tooLong, List.any_cons, Bool.or_eq_false_iff, decide_eq_false_iff_not] at hl
    have hs := heardS_said most mx xs acc f (saidL mx (nextF mx xs f) l) (by omega) (by omega) (by omega)
    have ht2 : tooMuch (acc ++ [f]) = false := by
      refine tooMuch_mono (b := l) ?_
      rw [List.append_assoc]
      exact ht
    rw [pushF, if_neg (by simp [ht2])] at hs
    have h0 : saidF mx xs f ++ saidL mx (nextF mx xs f) l ≠ [] := by simp [saidF_ne mx xs f (by omega)]
    simp only [saidL, nextL]
    rw [heard_next h0 (by rw [hs]), hs]
    simp only [List.drop_left]
    rw [ih (nextF mx xs f) (acc ++ [f]) (wt_nextF mx xs f hx) (by rw [List.append_assoc]; exact ht) hl.2]
    simp

/-- The two coders, one that says, one that hears: between two lists. -/
structure Alike (max : Nat) (xs : List Fld) (mx : Nat) (ps : List Nat) (ys : List Fld) (my : Nat) : Prop where
  mmax : max ≤ 4096
  mmx : mx ≤ max
  mmy : my ≤ max
  wx : wt xs ≤ mx
  wy : wt ys ≤ my
  pmax : ∀ p ∈ ps, p ≤ max
  rel : (xs, mx) = settle ps ys my
theorem Alike.new (max : Nat) (h : max ≤ 4096) : Alike max [] max [] [] max :=
  ⟨h, Nat.le_refl _, Nat.le_refl _, by simp [wt], by simp [wt], by simp, rfl⟩
theorem Alike.resize {max mx my : Nat} {xs ys : List Fld} {ps : List Nat} (h : Alike max xs mx ps ys my) (p : Nat) (hp : p ≤ max) : Alike max (shr p xs) p (ps ++ [p]) ys my :=
  ⟨h.mmax, hp, h.mmy, wt_shr _ _, h.wy, by
    intro q hq
    rcases List.mem_append.1 hq with hq | hq
    · exact h.pmax q hq
    · rw [List.mem_singleton.1 hq]; exact hp, by rw [settle_snoc, ← h.rel]⟩
theorem Alike.said {max mx my : Nat} {xs ys : List Fld} {ps : List Nat} (h : Alike max xs mx ps ys my) (l : List Fld) (hl : saidE l = 0) :
    heard max ys my [] (saidP ps ++ saidL mx xs l) = ⟨0, nextL mx xs l, mx, l, 0⟩ ∧ Alike max (nextL mx xs l) mx [] (nextL mx xs l) mx := by
  have hc : tooMuch l = false ∧ tooLong l = false := by
    unfold saidE at hl
    split at hl
    · simp at hl
    · rename_i h1
      simpa using h1
  have hmm := h.mmax
  have hmx := h.mmx
  constructor
  · rw [heard_saidP max ys my ps _ h.pmax hmm, ← h.rel]
    exact heard_said max mx (by omega) l xs [] h.wx hc.1 hc.2
  · have hw : ∀ (l xs : List Fld), wt xs ≤ mx → wt (nextL mx xs l) ≤ mx := by
      intro l
      induction l with
      | nil => intro xs hx; exact hx
      | cons f l ih => intro xs hx; exact ih _ (wt_nextF mx xs f hx)
    exact ⟨hmm, hmx, hmx, hw l xs h.wx, hw l xs h.wx, by simp, rfl⟩
end Go.Proofs.YtkbbkamnmdeagaaDoor
namespace Go.Proofs.YtkbbkamnmdeagaaDoor
open Go.RowKit

/-- One slice of several: its address, length, capacity; what it reads as. -/
structure Part where
  A : Option Addr
  n : Nat
  c : Nat
  xs : List Value
def total (ps : List Part) : Nat := (ps.map Part.n).sum
def flat (ps : List Part) : List Value := ps.flatMap Part.xs
theorem total_append (a b : List Part) : total (a ++ b) = total a + total b := by simp [total]
theorem total_take_succ (ps : List Part) (k : Nat) (h : k < ps.length) : total (ps.take (k + 1)) = total (ps.take k) + ps[k].n := by
  rw [List.take_succ_eq_append_getElem h, total_append]
  simp [total]
theorem total_take_le (ps : List Part) (k : Nat) : total (ps.take k) ≤ total ps := by
  have h := total_append (ps.take k) (ps.drop k)
  rw [List.take_append_drop] at h
  omega
theorem flat_append (a b : List Part) : flat (a ++ b) = flat a ++ flat b := by simp [flat]
theorem flat_take_succ (ps : List Part) (k : Nat) (h : k < ps.length) : flat (ps.take (k + 1)) = flat (ps.take k) ++ ps[k].xs := by
  rw [List.take_succ_eq_append_getElem h, flat_append]
  congr 1
  simp [flat]
/-- Slices that lie side by side in a block, each of which reads. -/
def PartsAt (w : World) (size pb : Nat) (ps : List Part) : Prop :=
  ∀ k (hk : k < ps.length), w.cell? ⟨pb, k, none⟩ = some (.slice ps[k].A ps[k].n ps[k].c) ∧ Reads w w.heap.size size ps[k].A ps[k].n ps[k].xs ∧ ∀ u ∈ ps[k].xs, u.oneCell' = true
theorem cell_belowP {w w1 : World} (hb : Below w.heap.size w w1) {p : Addr} {v : Value} (h : w.cell? p = some v) : w1.cell? p = some v := (hb.cell (World.block_lt_of_cell? w p h)).trans h
theorem zeroCells_size (z : Array Value) (n : Nat) : (Builtin.zeroCells z n).size = n * z.size := by
  unfold Builtin.zeroCells
  simp
end Go.Proofs.YtkbbkamnmdeagaaDoor
