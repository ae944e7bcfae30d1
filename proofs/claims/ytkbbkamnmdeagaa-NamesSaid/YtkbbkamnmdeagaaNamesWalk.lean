/-
  The walk of the law Names: the method Error of api.Errno at the numbers 0 to 10, and the loop over the eleven names. No condition.
-/
import Derived.Test.YtkbbkamnmdeagaaRows
import Derived.WalkKit
import Derived.WalkSpells
import Derived.WalkLawsBesides
namespace Go.Proofs.Ytkbbkamnmdeagaa
open Go.RowKit

set_option maxHeartbeats 1000000 in
theorem names_walk (w : World) :
    Calls Try.prog 3 #[] w fun e w' => e = .returned (.bool true) ∧ Below w.heap.size w w' := by
  go_enter Try.func3, Try.ntmps3
  go_wp2
  refine wp_loop_rounds 12 ?_
  iterate 12
    rw [rounds_succ]
    go_wp2
  go_ret
  exact ⟨rfl, (Below.refl _ _).alloc (Nat.le_refl _) _⟩

end Go.Proofs.Ytkbbkamnmdeagaa
