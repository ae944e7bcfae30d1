/-
  A region that draws its order, walked once in the order of the text, at any class of worlds: its callees may make memory, if they stay in the class. Nothing of the program.
-/
import Derived.Test.YtkbbkamnmdeagaaDoorMem
import Derived.Deep.QuietTactic
import Derived.BigQuiet
namespace Go.Proofs.YtkbbkamnmdeagaaDoor
open Go.RowKit

/-- A world of a class. -/
structure WIn (C : World → Prop) where
  w : World
  h : C w
theorem quiet_in {P : Program} {id : Nat} {Q : Exit → Act → World → Prop} {a : Act} {w : World} {l : List Oper} (C0 : World → Prop) (hm : P.follows .mixedOrders = true) (hB : Region.lexB .any l.toArray = true) (hC : C0 w.drew)
    (h : Nonempty (WIn C0) → wpQuiet P l.toArray (fun w' => ∃ x : WIn C0, w' = x.w) (fun a' => ∀ w', (∃ x : WIn C0, w' = x.w) → Q .normal a' w') l a) : (Code.region id l.toArray true).wp P Q a w :=
  wp_region_quiet (C := fun w' => ∃ x : WIn C0, w' = x.w) hm hB ⟨⟨_, hC⟩, rfl⟩ (by simpa using h ⟨⟨_, hC⟩⟩)
theorem quiet_call {P : Program} {f : FuncId} {args : Array Value} {C0 : World → Prop} {x : WIn C0} {v : Value} {R : Ending → World → Prop} (h : Calls P f args x.w R) (hR : ∀ e w', R e w' → e = .returned v ∧ C0 w') :
    Calls P f args x.w fun e w'' => e = .returned v ∧ ∃ y : WIn C0, w'' = y.w :=
  h.mono fun e w' hr => ⟨(hR e w' hr).1, ⟨_, (hR e w' hr).2⟩, rfl⟩
end Go.Proofs.YtkbbkamnmdeagaaDoor
