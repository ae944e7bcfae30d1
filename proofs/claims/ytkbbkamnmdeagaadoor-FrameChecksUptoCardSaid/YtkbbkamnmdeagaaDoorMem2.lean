/-
  Bytes to a string; the uniform contracts of Big. No condition.
-/
import Derived.Test.YtkbbkamnmdeagaaDoorBig3
namespace Go.Proofs.YtkbbkamnmdeagaaDoor
open Go.RowKit

def bigOk (n s : Int) : Prop := 1 ≤ s ∧ s ≤ 4 ∧ 0 ≤ n ∧ n ≤ (most s.toNat : Nat)
instance (n s : Int) : Decidable (bigOk n s) := by unfold bigOk; infer_instance
def bigE (n s : Int) : Nat := if bigOk n s then 0 else 1
def bigL (n s : Int) : List UInt8 := if bigOk n s then beBytes s.toNat n.toNat else []
theorem wbig_any (n s : Int) (w : World) :
    Calls Tryd.prog 14 #[.int .i64 n, .int .i64 s] w fun e w' => ∃ A c, e = .returned (.tuple #[.slice A (bigL n s).length c, errV (bigE n s)]) ∧ Gave w w' (bigL n s) A c := by
  by_cases h : bigOk n s
  · have e1 : bigE n s = 0 := by simp [bigE, h]
    have e2 : bigL n s = beBytes s.toNat n.toNat := by simp [bigL, h]
    rw [e1, e2]
    refine (wbig_ok n s h.1 h.2.1 h.2.2.1 h.2.2.2 w).mono ?_
    rintro e w' ⟨v, he, hown, hb⟩
    obtain ⟨A, c, rfl, hg⟩ := gave_of_own (l := beBytes s.toNat n.toNat) (by rw [beBytes_length]; exact hown) hb
    exact ⟨A, c, he, hg⟩
  · have e1 : bigE n s = 1 := by simp [bigE, h]
    have e2 : bigL n s = [] := by simp [bigL, h]
    rw [e1, e2]
    refine (wbig_bad n s h w).mono ?_
    rintro e w' ⟨he, rfl⟩
    exact ⟨none, 0, he, gave_nil w⟩
theorem rbig_any (n s : Int) (w : World) :
    Calls Tryd.prog 13 #[.int .i64 n, .int .i64 s] w fun e w' => ∃ A c, e = .returned (.tuple #[.slice A (bigL n s).length c, .int .i64 (bigE n s : Nat)]) ∧ Gave w w' (bigL n s) A c := by
  by_cases h : bigOk n s
  · have e1 : bigE n s = 0 := by simp [bigE, h]
    have e2 : bigL n s = beBytes s.toNat n.toNat := by simp [bigL, h]
    rw [e1, e2]
    refine (rbig_ok n s h.1 h.2.1 h.2.2.1 h.2.2.2 w).mono ?_
    rintro e w' ⟨v, he, hown, hb⟩
    obtain ⟨A, c, rfl, hg⟩ := gave_of_own (l := beBytes s.toNat n.toNat) (by rw [beBytes_length]; exact hown) hb
    exact ⟨A, c, he, hg⟩
  · have e1 : bigE n s = 1 := by simp [bigE, h]
    have e2 : bigL n s = [] := by simp [bigL, h]
    rw [e1, e2]
    refine (rbig_bad n s h w).mono ?_
    rintro e w' ⟨he, rfl⟩
    exact ⟨none, 0, he, gave_nil w⟩
theorem same_true (a : Nat) (w : World) (hE : ErrType w) :
    Calls Tryd.prog 15 #[errV a, .int .i64 (a : Nat)] w fun r w' => r = .returned (.bool true) ∧ Below w.heap.size w w' :=
  (same_err a (a : Nat) w hE).mono fun _ _ h => ⟨by simpa using h.1, h.2⟩
end Go.Proofs.YtkbbkamnmdeagaaDoor
