/-
  append of one byte just laid, up to the bound that the model itself sets (a capacity of no more than 2^48 bytes). Condition: the bound on the length.
-/
import Derived.Test.YtkbbkamnmdeagaaBytes
namespace Go.Proofs.Ytkbbkamnmdeagaa
open Go.RowKit

theorem growBy_near (need : Nat) : ∀ (r c : Nat), Builtin.growBy need r c ≤ c ∨ 4 * Builtin.growBy need r c ≤ 5 * need + 768
  | 0, c => .inl (Nat.le_refl _)
  | r + 1, c => by
    unfold Builtin.growBy
    split
    · exact .inl (Nat.le_refl _)
    · rcases growBy_near need r (c + (c + 768) / 4) with h | h
      · right
        omega
      · exact .inr h
/-- The capacity that Go asks for is near to what is needed. -/
theorem nextcap_near {need old : Nat} (h : old < need) (hn : need ≤ 225000000000000) : Builtin.nextslicecap need old * 1 ≤ 281474976710656 := by
  unfold Builtin.nextslicecap
  split
  · omega
  · split
    · omega
    · rcases growBy_near need 4 old with h1 | h1 <;> omega
/-- A row of bytes just laid, with room behind it. -/
theorem own_laid {P : Program} {w : World} {base k C : Nat} {ys : List Value} (hl : ys.length = k) (hk : k ≤ C) (hC : C ≤ maxLen) (hb : base ≤ w.heap.size) :
    (w.drew.alloc (.cells (ys.toArray ++ Builtin.zeroCells (Value.cells (.int .u8 0)) (C - k)) 5)).ownsRow base 5 1 (.slice (some ⟨w.heap.size, 0, none⟩) k C) k ys ∧ ∀ row, w.grownBy (w.drew.alloc (.cells (ys.toArray ++ Builtin.zeroCells (Value.cells (.int .u8 0)) (C - k)) 5)) row := by
  have hz : (Builtin.zeroCells (Value.cells (.int .u8 0)) (C - k)).size = C - k := by simp [Builtin.zeroCells, Value.cells]
  refine ⟨⟨by omega, .inr ⟨w.heap.size, C, _, rfl, hb, heap_alloc_new w.drew _, hk, hC, ?_, ?_⟩⟩, fun row => ⟨rfl, rfl, rfl, by simp, fun j hj _ => heap_alloc_old w.drew _ hj⟩⟩
  · rw [Array.size_append, hz, List.size_toArray]
    omega
  · rw [Array.toList_append, Nat.mul_one, ← hl]
    exact List.take_left
theorem run_push_far {base n : Nat} {v : Value} {xs : List Value} {w : World} {u : Value} (ty : TypeId) (hown : w.ownsRow base 5 1 v n xs) (a : Addr) (hc : ∀ j x, [u][j]? = some x → w.cell? (a.add j) = some x) (h1 : u.oneCell' = true) (hn : n + 1 ≤ 225000000000000) (hb : base ≤ w.heap.size) :
    ∃ v' w', (Builtin.append_ #[26, 26] ty #[v, .slice (some a) 1 1]).run Try.prog w = .ok v' w' ∧ w'.ownsRow base 5 1 v' (n + 1) (xs ++ [u]) ∧ w.grownBy w' v.ownBlock := by
  obtain ⟨i0, hi, hz0, hz1, hz2⟩ := info_parts u8_info
  have hlen : xs.length = n := by have := hown.1; omega
  rcases hown.2 with ⟨rfl, hn0⟩ | ⟨g, cap, cur, rfl, hbg, hg, hnc, hcm, hcs, htake⟩
  · have hn0 : n = 0 := by simpa using hn0
    subst hn0
    have hx : xs = [] := List.eq_nil_of_length_eq_zero hlen
    subst hx
    have hr := run_append_nil (P := Try.prog) w 26 ty 5 i0 (.int .u8 0) Try.underlying26 hi hz0 a 1 1 [u] (by rw [hz1]; rfl) hc (by decide) (by decide) (by rw [hz2]; decide)
    have ho := own_laid (P := Try.prog) (w := w) (base := base) (ys := [u]) rfl (grownCap_ge w 1 0 5) (grownCap_le_maxLen w 1 0 5 (by simp only [maxLen]; omega)) hb
    exact ⟨_, _, hr, ho.1, ho.2 _⟩
  · by_cases hroom : n + 1 ≤ cap
    · have hr := run_append_room (P := Try.prog) w 26 ty 5 i0 Try.underlying26 hi g n cap cur hg a 1 1 [u] (by rw [hz1]; rfl) hc (by simpa using h1) hroom (by rw [hz1, hcs]; simp; omega)
      rw [hz1] at hr
      refine ⟨_, _, hr, ⟨by simp [hlen], .inr ⟨g, cap, _, rfl, hbg, setRow_heap w g cur _ _ _ hg, hroom, hcm, ?_, ?_⟩⟩, ⟨rfl, rfl, rfl, by simp, fun k _ hk => setRow_other w g k _ (fun e => hk (by simp [Value.ownBlock, e]))⟩⟩
      · have hcs' : cur.size = cap := by omega
        simp only [List.size_toArray, List.length_append, List.length_take, List.length_drop, Array.length_toList, List.length_singleton]
        omega
      · have e1 : (cur.toList.take (n * 1) ++ [u]).length = (n + 1) * 1 := by rw [htake]; simp [hlen]
        rw [← e1, htake]
        exact List.take_left
    · have hr := run_append_grow (P := Try.prog) w 26 ty 5 i0 (.int .u8 0) Try.underlying26 hi hz0 ⟨g, 0, none⟩ n cap xs (by rw [hz1]; omega) (fun j x => hown.cells (g := g) rfl j x) a 1 1 [u] (by rw [hz1]; rfl) hc (by omega) (by omega) (by rw [hz2]; exact nextcap_near (by omega) hn)
      have ho := own_laid (P := Try.prog) (w := w) (base := base) (ys := xs ++ [u]) (k := n + 1) (by simp [hlen]) (grownCap_ge w (n + 1) cap 5) (grownCap_le_maxLen w (n + 1) cap 5 (by simp only [maxLen]; omega)) hb
      have e0 : xs.toArray ++ [u].toArray = (xs ++ [u]).toArray := by simp
      rw [e0] at hr
      exact ⟨_, _, hr, ho.1, ho.2 _⟩
/-- 'append(v, x)', x just laid. -/
theorem wpList_push_far {ops : Array Oper} {rest : List Oper} {o : Oper} {a : Act} {Q : Exit → Act → World → Prop} {w : World} {u : Value} (hgd : o.guard = none) (s x : Operand)
    (ho : o.op = .call { callee := .builtin .append, args := #[s, x], argTypes := #[26, 26] })
    (base : Nat) (v : Value) (n : Nat) (xs : List Value) (hs : a.eval s = v) (hown : w.ownsRow base 5 1 v n xs)
    (hx : a.eval x = .slice (some ⟨w.heap.size, 0, none⟩) 1 1) (h1 : u.oneCell' = true) (hn : n + 1 ≤ 225000000000000) (hbase : base ≤ w.heap.size)
    (h : ∀ v' w', w'.ownsRow base 5 1 v' (n + 1) (xs ++ [u]) → Below base w w' → wpList Try.prog ops Q rest (a.put o.dst v') w') : wpList Try.prog ops Q (o :: rest) a (w.alloc (.cells #[u] 5)) := by
  obtain ⟨v', w', hrun, h2, h3⟩ := run_push_far o.type (hown.alloc (.cells #[u] 5)) ⟨w.heap.size, 0, none⟩ (cell_one_new _ _ _) h1 hn (by simp; omega)
  refine wpList_plain hgd fun K hK => ?_
  unfold Oper.wp execOp
  simp only [ho, resolve, invoke, builtin, Sem.run_bind, Sem.run_pure, Result.andThen_ok, List.map_toArray, List.map_cons, List.map_nil, hs, hx, hrun]
  exact hK _ _ (h v' w' h2 (below_append ((Below.refl _ _).alloc hbase _) (hown.alloc _) h3 (by simp; omega)))
end Go.Proofs.Ytkbbkamnmdeagaa
