/-
  A world for the witness of a row that lists no variable. No condition.
-/
import Derived.Test.YtkbbkamnmdeagaaProg
import Derived.ChangeSame
import Derived.RowKit
import Derived.LaidLaws
import Derived.Stop.Joined
namespace Go.Proofs.Ytkbbkamnmdeagaa
noncomputable def plainWorld (os : Os) : World := World.holding Try.prog os ⟨#[], #[], []⟩
end Go.Proofs.Ytkbbkamnmdeagaa
