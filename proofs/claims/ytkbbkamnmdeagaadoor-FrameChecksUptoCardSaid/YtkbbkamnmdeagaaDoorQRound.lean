/-
  A region that draws its order, inside a round of a range over a function, that is quiet in a class of worlds: walked once in the order of the text. No condition.
-/
import Derived.Test.YtkbbkamnmdeagaaDoorRound
import Derived.Test.YtkbbkamnmdeagaaDoorQuietIn
namespace Go.Proofs.YtkbbkamnmdeagaaDoor
open Go.RowKit

theorem quiet_round {P : Program} {id l n : Nat} {Q : Exit → Act → World → Prop} {a : Act} {w : World} {ops : List Oper} (C0 : World → Prop) (hm : P.follows .mixedOrders = true) (hB : Region.lexB .any ops.toArray = true) (hnd : ops.all noDefer = true) (hC : C0 w.drew)
    (h : Nonempty (WIn C0) → wpQuiet P ops.toArray (fun w' => ∃ x : WIn C0, w' = x.w) (fun a' => ∀ w', (∃ x : WIn C0, w' = x.w) → Q .normal a' w') ops a) : (Code.region id ops.toArray true).wpIn (Fence.wide.inRound l) n P Q a w := by
  simp only [Region.lexB, Bool.and_eq_true] at hB
  refine wpIn_mono (Q := OnlyN Q) ?_ ?_
  · refine wpIn_region_any hm (wpAnyIn_of_wpAny ?_ ?_ _ _ _ _ (wpAny_of_quiet (C := fun w' => ∃ x : WIn C0, w' = x.w) (Q := fun a' => ∀ w', (∃ x : WIn C0, w' = x.w) → Q .normal a' w') (Q' := OnlyN Q) (fun _ w' hw' h => h w' hw') _ _ _ w.drew ⟨⟨_, hC⟩, rfl⟩ ?_))
    · intro i o ho c hc
      have hmem : o ∈ ops := by
        have := List.mem_of_getElem? (by simpa using ho)
        exact this
      have := List.all_eq_true.1 hnd o hmem
      unfold noDefer at this
      rw [hc] at this
      cases this
    · rintro ⟨a', w', h'⟩
      exact h'
    · have := wpAnyQ_lex (C := fun w' => ∃ x : WIn C0, w' = x.w) (md := .any) hB.1 ops 0 (Array.replicate ops.toArray.size false) a (by simp) (by simpa using hB.2) (h ⟨⟨_, hC⟩⟩)
      simpa using this
  · intro e a' w' h'
    cases e with
    | normal => exact h'
    | _ => exact h'.elim
end Go.Proofs.YtkbbkamnmdeagaaDoor
