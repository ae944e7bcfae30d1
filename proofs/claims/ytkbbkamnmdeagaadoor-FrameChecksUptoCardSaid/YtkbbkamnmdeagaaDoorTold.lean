/-
  plain.Told and tollsame.Error: the number of an error is the one told. Condition: errors.errorType holds the handle of the type 'error'.
-/
import Derived.Test.YtkbbkamnmdeagaaDoorErr
import Derived.Test.YtkbbkamnmdeagaaDoorMem
namespace Go.Proofs.YtkbbkamnmdeagaaDoor
open Go.RowKit

theorem ErrType.pos {w : World} (h : ErrType w) : 0 < w.heap.size := by
  rcases Nat.eq_zero_or_pos w.heap.size with h0 | h1
  · unfold ErrType at h
    simp [World.cell?, h0] at h
  · exact h1
theorem ErrType.below {w w' : World} {B : Nat} (h : ErrType w) (hb : Below B w w') (hB : 0 < B) : ErrType w' := (hb.cell (p := ⟨0, 0, none⟩) hB).trans h
theorem ErrType.next {w w' : World} (h : ErrType w) (hb : Below w.heap.size w w') : ErrType w' := h.below hb h.pos

set_option maxHeartbeats 1000000 in
set_option maxRecDepth 100000 in
theorem told_nil (w : World) :
    Calls Tryd.prog 70 #[.nilIface] w fun e w' => e = .returned (.int .i64 0) ∧ w = w' := by
  go_enter Tryd.func70, Tryd.ntmps70
  go_wp2
  go_ret
  exact ⟨rfl, rfl⟩

theorem as_errno (k : Int) (t : Addr) (old : Value) (w : World) (hE : ErrType w) (ht0 : w.cell? t = some old) (hf0 : w.frozen? t = false) :
    Calls Tryd.prog 95 #[.iface 113 (.int .i64 k), .iface 143 (.pointer (some t))] w fun e w' => e = .returned (.bool true) ∧ Below t.block w w' ∧ w'.cell? t = some (.int .i64 k) := by
  refine (as_hit k t old w hE ht0 hf0).mono ?_
  rintro e w' ⟨he, hw⟩
  have hlt : t.block < w.heap.size := World.block_lt_of_cell? w t ht0
  refine ⟨he, ?_, ?_⟩
  · rw [hw]
    refine Below.setCell ?_ (Nat.le_refl _) _
    refine Below.alloc (Below.alloc (Below.alloc (Below.alloc (Below.refl _ _) (by omega) _) ?_ _) ?_ _) ?_ _ <;> simp only [World.size_alloc] <;> omega
  · rw [hw]
    refine World.cell?_setCell_same _ _ _ (u := old) ?_
    rw [World.cell?_alloc_lt _ _ t (by simp; omega), World.cell?_alloc_lt _ _ t (by simp; omega), World.cell?_alloc_lt _ _ t (by simp; omega), World.cell?_alloc_lt _ _ t hlt]
    exact ht0

set_option maxHeartbeats 1000000 in
set_option maxRecDepth 100000 in
theorem told_err (k : Int) (w : World) (hE : ErrType w) :
    Calls Tryd.prog 70 #[.iface 113 (.int .i64 k)] w fun e w' => e = .returned (.int .i64 k) ∧ Below w.heap.size w w' := by
  have hE' : ErrType (w.alloc (.cells #[.int .i64 0] 113)) := hE.next ((Below.refl _ _).alloc (Nat.le_refl _) _)
  have ht : (w.alloc (.cells #[.int .i64 0] 113)).cell? ⟨w.heap.size, 0, none⟩ = some (.int .i64 0) := by simp
  have hf : (w.alloc (.cells #[.int .i64 0] 113)).frozen? ⟨w.heap.size, 0, none⟩ = false := by simp
  go_enter Tryd.func70, Tryd.ntmps70
  go_wp2_with (go_at_call 95; refine (as_errno k _ (.int .i64 0) _ hE' ht hf).mono ?_; rintro e w' ⟨rfl, hb, hc⟩)
  go_ret
  exact ⟨rfl, ((Below.refl _ _).alloc (Nat.le_refl _) _).trans hb⟩

theorem same_err (a : Nat) (e : Int) (w : World) (hE : ErrType w) :
    Calls Tryd.prog 15 #[errV a, .int .i64 e] w fun r w' => r = .returned (.bool ((a : Int) == e)) ∧ Below w.heap.size w w' := by
  by_cases h0 : a = 0
  · subst h0
    rw [errV_zero]
    go_enter Tryd.func15, Tryd.ntmps15
    go_wp2_with (go_at_call 70; refine (told_nil _).mono ?_; rintro r w' ⟨rfl, rfl⟩)
    go_ret
    exact ⟨by simp, Below.refl _ _⟩
  · rw [errV_pos h0]
    clear h0
    go_enter Tryd.func15, Tryd.ntmps15
    go_wp2_with (go_at_call 70; refine (told_err _ _ hE).mono ?_; rintro r w' ⟨rfl, hb⟩)
    go_ret
    exact ⟨rfl, hb⟩
end Go.Proofs.YtkbbkamnmdeagaaDoor
