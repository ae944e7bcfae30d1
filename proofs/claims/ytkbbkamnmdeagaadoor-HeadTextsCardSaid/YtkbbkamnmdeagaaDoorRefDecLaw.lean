/-
  The plain law of the reference's parse: its tests, in its order, tell what 'dec' tells. Condition: none.
-/
import Derived.Test.YtkbbkamnmdeagaaDoorRefEnc
namespace Go.Proofs.YtkbbkamnmdeagaaDoor
open Go.RowKit

theorem drop_head (L : List Bool) (a : Nat) (h : a < L.length) : (L.drop a).head? = some L[a] := by
  rw [List.head?_drop, List.getElem?_eq_getElem h]
theorem not_all_false (L : List Bool) (a q : Nat) (haq : a ≤ q) (h : q < L.length) (h0 : L[q] = false) : ¬ ((L.drop a).length < 8 ∧ (L.drop a).all (fun b => b) = true) := by
  rintro ⟨_, h1⟩
  rw [List.all_eq_true] at h1
  have hm : L[q] ∈ L.drop a := by
    rw [List.mem_iff_getElem?]
    exact ⟨q - a, by rw [List.getElem?_drop, show a + (q - a) = q by omega, List.getElem?_eq_getElem h]⟩
  have := h1 _ hm
  rw [h0] at this
  cases this
theorem rd_often (L : List Bool) (a : Nat) (h : a + 6 ≤ L.length) (h0 : L[a] = false) :
    dec (L.drop a) = (dec (L.drop (a + 6))).map (often.getD (val ((L.drop (a + 1)).take 5)) 0 :: ·) := by
  have hl : (L.drop a).length = L.length - a := List.length_drop ..
  rw [dec_often (not_all_false L a a (Nat.le_refl _) (by omega) h0) (by omega) (by rw [drop_head L a (by omega), h0]), List.drop_drop, List.drop_drop]
theorem rd_rare (L : List Bool) (a : Nat) (h : a + 9 ≤ L.length) (h0 : L[a] = true) (hi : ¬ 0 ≤ oidx (UInt8.ofNat (val ((L.drop (a + 1)).take 8)))) :
    dec (L.drop a) = (dec (L.drop (a + 9))).map (UInt8.ofNat (val ((L.drop (a + 1)).take 8)) :: ·) := by
  have hl : (L.drop a).length = L.length - a := List.length_drop ..
  have hd : (L.drop a).drop 1 = L.drop (a + 1) := by rw [List.drop_drop]
  rw [dec_rare (l := L.drop a) (by omega) (by rw [drop_head L a (by omega), h0]; simp) (by rw [hd]; exact hi), hd, List.drop_drop]
theorem rd_bad (L : List Bool) (a : Nat) (h : a + 9 ≤ L.length) (h0 : L[a] = true) (hi : 0 ≤ oidx (UInt8.ofNat (val ((L.drop (a + 1)).take 8)))) :
    dec (L.drop a) = none := by
  have hl : (L.drop a).length = L.length - a := List.length_drop ..
  have hd : (L.drop a).drop 1 = L.drop (a + 1) := by rw [List.drop_drop]
  exact dec_bad (l := L.drop a) (by omega) (by rw [drop_head L a (by omega), h0]; simp) (by rw [hd]; exact hi)
theorem rd_long (L : List Bool) (a : Nat) (h : a < L.length) (h0 : ¬ (L[a] = false ∧ a + 6 ≤ L.length)) (h1 : ¬ (L[a] = true ∧ a + 9 ≤ L.length)) (h7 : 7 < L.length - a) : dec (L.drop a) = none := by
  have hl : (L.drop a).length = L.length - a := List.length_drop ..
  have hT : L[a] = true := by
    cases e : L[a] with
    | true => rfl
    | false => exact absurd ⟨e, by omega⟩ h0
  exact dec_cut (l := L.drop a) (by omega) (by omega) (by rw [drop_head L a h, hT]; simp) (by have : ¬ a + 9 ≤ L.length := fun h => h1 ⟨hT, h⟩; omega)
theorem rd_left_bad (L : List Bool) (a q : Nat) (h : a < L.length) (h0 : ¬ (L[a] = false ∧ a + 6 ≤ L.length)) (h7 : L.length - a ≤ 7) (haq : a ≤ q) (hq : q < L.length) (hqf : L[q] = false) : dec (L.drop a) = none := by
  have hl : (L.drop a).length = L.length - a := List.length_drop ..
  have hn := not_all_false L a q haq hq hqf
  by_cases h6 : (L.drop a).length < 6
  · exact dec_short hn h6
  · have hT : L[a] ≠ false := fun e => h0 ⟨e, by omega⟩
    exact dec_cut hn h6 (by rw [drop_head L a h]; simpa using hT) (by omega)
theorem rd_left (L : List Bool) (a : Nat) (h7 : L.length - a ≤ 7) (hall : ∀ q, a ≤ q → q < L.length → L[q]? = some true) : dec (L.drop a) = some [] := by
  have hl : (L.drop a).length = L.length - a := List.length_drop ..
  refine dec_ones (by omega) ?_
  rw [List.all_eq_true]
  intro b hb
  rw [List.mem_iff_getElem?] at hb
  obtain ⟨j, hj⟩ := hb
  rw [List.getElem?_drop] at hj
  have hlt : a + j < L.length := by
    rcases Nat.lt_or_ge (a + j) L.length with h | h
    · exact h
    · rw [List.getElem?_eq_none h] at hj; cases hj
  rw [hall (a + j) (by omega) hlt] at hj
  cases hj
  rfl
end Go.Proofs.YtkbbkamnmdeagaaDoor
