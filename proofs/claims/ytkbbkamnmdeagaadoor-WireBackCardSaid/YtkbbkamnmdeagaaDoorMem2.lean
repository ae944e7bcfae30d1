/-
  Bytes to a string; the uniform contracts of Big. No condition.
-/
import Derived.Test.YtkbbkamnmdeagaaDoorBig3
namespace Go.Proofs.YtkbbkamnmdeagaaDoor
open Go.RowKit

/-- 'string(b)' where b reads as l. -/
theorem run_str {w : World} {B : Nat} {A : Option Addr} {l : List UInt8} (hr : Reads w B 1 A l.length (bs l)) (c : Nat) :
    (convert 22 9 (.slice A l.length c)).run Tryd.prog w = .ok (.string ⟨l.toArray⟩) w := by
  rcases A with _ | a
  · have h0 : l.length = 0 := by
      rcases Nat.eq_zero_or_pos l.length with h | h
      · exact h
      · obtain ⟨ad, e, _⟩ := hr.2 h
        cases e
    have hl : l = [] := List.eq_nil_of_length_eq_zero h0
    subst hl
    rw [run_convert_bytes_string w 22 9 5 none _ c Tryd.underlying22 Tryd.underlying5 Tryd.underlying9]
    rfl
  · refine run_convert_bytes_back w 22 9 5 a c l Tryd.underlying22 Tryd.underlying5 Tryd.underlying9 (fun j hj => ?_)
    obtain ⟨ad, e, _, hc⟩ := hr.2 (by omega)
    injection e with e
    subst e
    exact hc j _ (bs_at l hj)

def bigOk (n s : Int) : Prop := 1 ≤ s ∧ s ≤ 4 ∧ 0 ≤ n ∧ n ≤ (most s.toNat : Nat)
instance (n s : Int) : Decidable (bigOk n s) := by unfold bigOk; infer_instance
def bigE (n s : Int) : Nat := if bigOk n s then 0 else 1
def bigL (n s : Int) : List UInt8 := if bigOk n s then beBytes s.toNat n.toNat else []
/-- What a call hands back: bytes that read as l, new. -/
def Gave (w w' : World) (l : List UInt8) (A : Option Addr) (c : Nat) : Prop := l.length ≤ c ∧ Reads w' w'.heap.size 1 A l.length (bs l) ∧ Below w.heap.size w w'

theorem gave_of_own {w w' : World} {v : Value} {l : List UInt8} (h : w'.ownsRow w.heap.size 5 1 v l.length (bs l)) (hb : Below w.heap.size w w') :
    ∃ A c, v = .slice A l.length c ∧ Gave w w' l A c := by
  obtain ⟨A, c, rfl, hc, hr⟩ := isBytes_of_own h
  exact ⟨A, c, rfl, hc, hr, hb⟩
theorem gave_nil (w : World) : Gave w w [] none 0 := ⟨Nat.le_refl _, Reads.none_, Below.refl _ _⟩

theorem wbig_any (n s : Int) (w : World) :
    Calls Tryd.prog 14 #[.int .i64 n, .int .i64 s] w fun e w' => ∃ A c, e = .returned (.tuple #[.slice A (bigL n s).length c, errV (bigE n s)]) ∧ Gave w w' (bigL n s) A c := by
  by_cases h : bigOk n s
  · have e1 : bigE n s = 0 := by simp [bigE, h]
    have e2 : bigL n s = beBytes s.toNat n.toNat := by simp [bigL, h]
    rw [e1, e2]
    refine (wbig_ok n s h.1 h.2.1 h.2.2.1 h.2.2.2 w).mono ?_
    rintro e w' ⟨v, he, hown, hb⟩
    obtain ⟨A, c, rfl, hg⟩ := gave_of_own (l := beBytes s.toNat n.toNat) (by rw [beBytes_length]; exact hown) hb
    exact ⟨A, c, he, hg⟩
  · have e1 : bigE n s = 1 := by simp [bigE, h]
    have e2 : bigL n s = [] := by simp [bigL, h]
    rw [e1, e2]
    refine (wbig_bad n s h w).mono ?_
    rintro e w' ⟨he, rfl⟩
    exact ⟨none, 0, he, gave_nil w⟩
theorem rbig_any (n s : Int) (w : World) :
    Calls Tryd.prog 13 #[.int .i64 n, .int .i64 s] w fun e w' => ∃ A c, e = .returned (.tuple #[.slice A (bigL n s).length c, .int .i64 (bigE n s : Nat)]) ∧ Gave w w' (bigL n s) A c := by
  by_cases h : bigOk n s
  · have e1 : bigE n s = 0 := by simp [bigE, h]
    have e2 : bigL n s = beBytes s.toNat n.toNat := by simp [bigL, h]
    rw [e1, e2]
    refine (rbig_ok n s h.1 h.2.1 h.2.2.1 h.2.2.2 w).mono ?_
    rintro e w' ⟨v, he, hown, hb⟩
    obtain ⟨A, c, rfl, hg⟩ := gave_of_own (l := beBytes s.toNat n.toNat) (by rw [beBytes_length]; exact hown) hb
    exact ⟨A, c, he, hg⟩
  · have e1 : bigE n s = 1 := by simp [bigE, h]
    have e2 : bigL n s = [] := by simp [bigL, h]
    rw [e1, e2]
    refine (rbig_bad n s h w).mono ?_
    rintro e w' ⟨he, rfl⟩
    exact ⟨none, 0, he, gave_nil w⟩
theorem same_true (a : Nat) (w : World) (hE : ErrType w) :
    Calls Tryd.prog 15 #[errV a, .int .i64 (a : Nat)] w fun r w' => r = .returned (.bool true) ∧ Below w.heap.size w w' :=
  (same_err a (a : Nat) w hE).mono fun _ _ h => ⟨by simpa using h.1, h.2⟩
end Go.Proofs.YtkbbkamnmdeagaaDoor
