/-
  Bytes to a string; the error of a number. No condition.
-/
import Derived.Test.YtkbbkamnmdeagaaMem
namespace Go.Proofs.Ytkbbkamnmdeagaa
open Go.RowKit

/-- The error of a number: nil for 0. -/
def errV (k : Nat) : Value := if k = 0 then .nilIface else .iface 23 (.int .i64 (k : Int))
theorem errV_zero : errV 0 = .nilIface := rfl
theorem errV_pos {k : Nat} (h : k ≠ 0) : errV k = .iface 23 (.int .i64 (k : Int)) := by simp [errV, h]
/-- 'string(b)' where b reads as l. -/
theorem run_str {w : World} {B : Nat} {A : Option Addr} {l : List UInt8} (hr : Reads w B 1 A l.length (bs l)) (c : Nat) :
    (convert 26 9 (.slice A l.length c)).run Try.prog w = .ok (.string ⟨l.toArray⟩) w := by
  rcases A with _ | a
  · have h0 : l.length = 0 := by
      rcases Nat.eq_zero_or_pos l.length with h | h
      · exact h
      · obtain ⟨ad, e, _⟩ := hr.2 h
        cases e
    have hl : l = [] := List.eq_nil_of_length_eq_zero h0
    subst hl
    rw [run_convert_bytes_string w 26 9 5 none _ c Try.underlying26 Try.underlying5 Try.underlying9]
    rfl
  · refine run_convert_bytes_back w 26 9 5 a c l Try.underlying26 Try.underlying5 Try.underlying9 (fun j hj => ?_)
    obtain ⟨ad, e, _, hc⟩ := hr.2 (by omega)
    injection e with e
    subst e
    exact hc j _ (bs_at l hj)
/-- What a call hands back: bytes that read as l, new. -/
def Gave (w w' : World) (l : List UInt8) (A : Option Addr) (c : Nat) : Prop := l.length ≤ c ∧ Reads w' w'.heap.size 1 A l.length (bs l) ∧ Below w.heap.size w w'
theorem gave_of_own {w w' : World} {v : Value} {l : List UInt8} (h : w'.ownsRow w.heap.size 5 1 v l.length (bs l)) (hb : Below w.heap.size w w') :
    ∃ A c, v = .slice A l.length c ∧ Gave w w' l A c := by
  obtain ⟨A, c, rfl, hc, hr⟩ := isBytes_of_own h
  exact ⟨A, c, rfl, hc, hr, hb⟩
theorem gave_nil (w : World) : Gave w w [] none 0 := ⟨Nat.le_refl _, Reads.none_, Below.refl _ _⟩
end Go.Proofs.Ytkbbkamnmdeagaa
