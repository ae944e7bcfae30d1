/-
  Plain law for TableKeeps: what was added last stands first; what is found is there. Nothing of the program but the contract of Get, said of a number.
-/
import Derived.Test.YtkbbkamnmdeagaaAdd
import Derived.Test.YtkbbkamnmdeagaaFind
namespace Go.Proofs.Ytkbbkamnmdeagaa
open Go.RowKit

theorem tAll_first (f : Fld) (ys : List Fld) : (tAll (f :: ys)).getD 12 ([], []) = f := rfl
theorem tAll_12 (f : Fld) (ys : List Fld) : ∃ h : 12 < (tAll (f :: ys)).length, (tAll (f :: ys))[12] = f := ⟨by simp [tAll_len], rfl⟩
theorem isF_self (f : Fld) : isF f f = true := by simp [isF]
/-- What was added is found, its name by no greater number. -/
theorem found (f : Fld) (ys : List Fld) : 1 ≤ fnd (isF f) (tAll (f :: ys)) ∧ 1 ≤ fnd (isN f) (tAll (f :: ys)) ∧ fnd (isN f) (tAll (f :: ys)) ≤ fnd (isF f) (tAll (f :: ys)) := by
  obtain ⟨h, e⟩ := tAll_12 f ys
  have h1 := fnd_least (p := isF f) h (by rw [e]; exact isF_self f)
  have h2 := fnd_le_of (p := isF f) (q := isN f) (l := tAll (f :: ys)) (fun x hx => by rw [isF_iff] at hx; rw [isN_iff]; exact hx.1) (by omega)
  omega
theorem fnd_names (f : Fld) (l : List Fld) (h : fnd (isF f) l ≠ 0) : fnd (isN f) l ≠ 0 := by
  have h2 := fnd_le_of (p := isF f) (q := isN f) (l := l) (fun x hx => by rw [isF_iff] at hx; rw [isN_iff]; exact hx.1) h
  omega
theorem found_is {p : Fld → Bool} {xs : List Fld} (h : fnd p (tAll xs) ≠ 0) : fnd p (tAll xs) ≤ 12 + xs.length ∧ p ((tAll xs).getD (fnd p (tAll xs) - 1) ([], [])) = true := by
  obtain ⟨hk, hp⟩ := fnd_some h
  refine ⟨by rw [← tAll_len]; omega, ?_⟩
  rw [List.getD_eq_getElem?_getD, List.getElem?_eq_getElem hk, Option.getD_some]
  exact hp
/-- Get at a number that is there. -/
theorem get_at {w : World} {g : Nat} {A : Option Addr} {c : Nat} {xs : List Fld} {mx : Nat} (h : Tab w g A c xs mx) (n : Nat) (h1 : 1 ≤ n) (h2 : n ≤ 12 + xs.length) (f : Fld) (hf : (tAll xs).getD (n - 1) ([], []) = f) :
    Calls Try.prog 13 #[.pointer (some ⟨g, 0, none⟩), .int .i64 (n : Int)] w fun e w' => e = .returned (.tuple #[.agg #[.string ⟨f.1.toArray⟩, .string ⟨f.2.toArray⟩], .nilIface]) ∧ Below w.heap.size w w' := by
  obtain ⟨k, rfl⟩ : ∃ k, n = k + 1 := ⟨n - 1, by omega⟩
  exact get_yes h k (by omega) f (by simpa using hf)
end Go.Proofs.Ytkbbkamnmdeagaa
