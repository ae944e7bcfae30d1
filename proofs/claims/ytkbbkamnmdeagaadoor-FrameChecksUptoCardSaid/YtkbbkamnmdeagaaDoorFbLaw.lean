/-
  Plain law for a head's frames put together: the pieces of a block, joined, are the block. Nothing of the program.
-/
import Derived.Test.YtkbbkamnmdeagaaDoorSplitW
namespace Go.Proofs.YtkbbkamnmdeagaaDoor
open Go.RowKit

theorem pc_take (block : List UInt8) (j : Nat) : block.take (1024 * j) ++ pcB block j = block.take (1024 * (j + 1)) := by
  unfold pcB
  rw [Nat.mul_add, Nat.mul_one, List.take_add]
theorem pc_all (block : List UInt8) (m : Nat) (h : m = max 1 (pieces block.length)) : block.take (1024 * m) = block := by
  apply List.take_of_length_le
  subst h
  unfold pieces
  omega
theorem pc_small (block : List UInt8) (j : Nat) : (pcB block j).length ≤ 1024 := by rw [pcB_len]; omega
/-- A head's frame. -/
def spF (block : List UInt8) (m i : Nat) : Frm := ⟨if i = 0 then 1 else 2, (if i = 0 then 1 else 0) + (if i + 1 = m then 4 else 0), 3, pcB block i⟩
theorem spF_fine (block : List UInt8) (m i : Nat) : frmE (spF block m i) = 0 := by
  refine frm_fine ?_ (by show ¬ 1024 < (pcB block i).length; have := pc_small block i; omega)
  unfold frmOk spF
  simp only
  split <;> split <;> omega
theorem spF_kind (block : List UInt8) (m i : Nat) : (spF block m i).K = 1 ∨ (spF block m i).K = 2 := by
  unfold spF
  simp only
  split <;> simp
theorem spF_flag (block : List UInt8) (m i : Nat) : (!(bits .and .i64 (spF block m i).F 4 == 0)) = decide (i + 1 = m) := by
  unfold spF
  simp only
  by_cases h0 : i = 0
  · by_cases h1 : i + 1 = m
    · rw [if_pos h0, if_pos h1, decide_eq_true h1]
      kernel_rfl
    · rw [if_pos h0, if_neg h1, decide_eq_false h1]
      kernel_rfl
  · by_cases h1 : i + 1 = m
    · rw [if_neg h0, if_pos h1, decide_eq_true h1]
      kernel_rfl
    · rw [if_neg h0, if_neg h1, decide_eq_false h1]
      kernel_rfl
end Go.Proofs.YtkbbkamnmdeagaaDoor
