/-
  A region that draws its order, inside a round of a range over a function, with no defer in it: it may be walked as one outside. No condition.
-/
import Derived.RangeFuncCalls
import Derived.OrdersIn
import Derived.Deep.RegionHeld3
import Derived.Test.YtkbbkamnmdeagaaDoorMem
namespace Go.Proofs.YtkbbkamnmdeagaaDoor
open Go.RowKit

variable {P : Program} {md : Region.Mode} {ops : Array Oper} {Q : Exit → Act → World → Prop} {l n : Nat}

theorem wpOpIn_of_wpOp (hnd : ∀ (i : Nat) (o : Oper), ops[i]? = some o → ∀ c, o.op ≠ .defer c) (hL : ¬ LetsOut Q) {i : Nat} {K K' : Act → World → Prop} {a : Act} {w : World} (hK : ∀ a w, K a w → K' a w)
    (h : wpOp P ops Q i K a w) : wpOpIn (Fence.wide.inRound l) n P ops Q i K' a w := by
  unfold wpOp at h
  unfold wpOpIn
  cases hoi : ops[i]? with
  | none =>
    rw [hoi] at h
    exact hK _ _ h
  | some o =>
    rw [hoi] at h
    dsimp only at h ⊢
    split at h
    · rename_i hw
      rw [if_pos hw]
      rcases h with h | ⟨_, h⟩
      · refine ⟨fun _ _ => trivial, ?_⟩
        rw [Oper.semAt_eq _ _ _ (hnd i o hoi)]
        unfold Oper.wp at h
        generalize (execOp a.eval o).run P w = r at h ⊢
        cases r with
        | ok nx w' =>
          cases nx with
          | value v => exact hK _ _ h
          | skip => exact hK _ _ h
          | defer d => exact hK _ _ h
          | enter f args =>
            refine ⟨fun h0 => (by cases h0), CallsIn.inRound l (callsIn_wide.2 ?_)⟩
            refine Calls.mono (show Calls P f args w' _ from h) ?_
            intro e w'' he
            cases e with
            | returned v => exact hK _ _ he
            | panicked chain => exact he
            | outgrown => exact absurd he hL
          | row row args =>
            refine ⟨fun h0 => (by cases h0), fun c cs _ => ?_⟩
            obtain ⟨v, w'', h1, h2⟩ := (show Rows P row args w' _ from h) c cs
            exact ⟨v, w'', hK _ _ h1, stepsIn_wide.2 h2⟩
          | _ => exact h.elim
        | halt s w' =>
          cases s with
          | panic v => exact h
          | _ => exact h.elim
      · exact absurd h hL
    · rename_i hw
      rw [if_neg hw]
      exact ⟨fun _ _ => trivial, hK _ _ h⟩
theorem wpAnyIn_of_wpAny (hnd : ∀ (i : Nat) (o : Oper), ops[i]? = some o → ∀ c, o.op ≠ .defer c) (hL : ¬ LetsOut Q) : ∀ (fuel : Nat) (listed : Array Bool) (a : Act) (w : World), wpAny P md ops Q fuel listed a w → wpAnyIn (Fence.wide.inRound l) n P md ops Q fuel listed a w
  | 0, _, _, _, h => h
  | fuel + 1, _, _, _, h => ⟨h.1, fun i hi => wpOpIn_of_wpOp hnd hL (fun a' w' h' => wpAnyIn_of_wpAny hnd hL fuel _ a' w' h') (h.2 i hi)⟩

/-- The post at the region's end alone. -/
def OnlyN (Q : Exit → Act → World → Prop) : Exit → Act → World → Prop
  | .normal, a, w => Q .normal a w
  | _, _, _ => False
def noDefer (o : Oper) : Bool := match o.op with
  | .defer _ => false
  | _ => true
theorem region_in_round {S : World → Prop} {id : Nat} {a : Act} {w : World} (hm : P.follows .mixedOrders = true) (hnd : ops.toList.all noDefer = true) (hS : S w.drew)
    (h : S w.drew → wpAnyH P .any ops (OnlyN Q) S ops.size (Array.replicate ops.size false) a w.drew) : (Code.region id ops true).wpIn (Fence.wide.inRound l) n P Q a w := by
  refine wpIn_mono (Q := OnlyN Q) ?_ ?_
  · refine wpIn_region_any hm (wpAnyIn_of_wpAny ?_ ?_ _ _ _ _ (wpAny_of_held _ _ _ _ (h hS)))
    · intro i o ho c hc
      have hmem : o ∈ ops.toList := by
        obtain ⟨hlt, e⟩ := Array.getElem?_eq_some_iff.1 ho
        rw [← e]
        exact Array.getElem_mem_toList hlt
      have := List.all_eq_true.1 hnd o hmem
      unfold noDefer at this
      rw [hc] at this
      cases this
    · rintro ⟨a', w', h'⟩
      exact h'
  · intro e a' w' h'
    cases e with
    | normal => exact h'
    | _ => exact h'.elim

/-- An append by its run. -/
theorem upon_append {o : Oper} {a : Act} {w w' : World} {K : Act → World → Prop} {s x : Operand} {t : TypeId} (ho : o.op = .call { callee := .builtin .append, args := #[s, x], argTypes := #[t, t] }) {v vx v' : Value} (hs : a.eval s = v) (hx : a.eval x = vx)
    (hr : (Builtin.append_ #[t, t] o.type #[v, vx]).run P w = .ok v' w') (h : K (a.put o.dst v') w') : Oper.wp P o a w K Q := by
  unfold Oper.wp
  simp [execOp, ho, resolve, invoke, builtin, hs, hx, hr, Result.andThen]
  exact h
end Go.Proofs.YtkbbkamnmdeagaaDoor
