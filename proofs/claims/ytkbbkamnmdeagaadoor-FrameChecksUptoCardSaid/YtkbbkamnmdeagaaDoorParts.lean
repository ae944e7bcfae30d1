/-
  Slices that are handed together: where they lie, how many elements they have in all. Nothing of the program.
-/
import Derived.Test.YtkbbkamnmdeagaaDoorBytes
import Derived.Lib.AppendZeros
namespace Go.Proofs.YtkbbkamnmdeagaaDoor
open Go.RowKit

/-- One slice of several: its address, length, capacity; what it reads as. -/
structure Part where
  A : Option Addr
  n : Nat
  c : Nat
  xs : List Value
def total (ps : List Part) : Nat := (ps.map Part.n).sum
def flat (ps : List Part) : List Value := ps.flatMap Part.xs
theorem total_append (a b : List Part) : total (a ++ b) = total a + total b := by simp [total]
theorem total_take_succ (ps : List Part) (k : Nat) (h : k < ps.length) : total (ps.take (k + 1)) = total (ps.take k) + ps[k].n := by
  rw [List.take_succ_eq_append_getElem h, total_append]
  simp [total]
theorem total_take_le (ps : List Part) (k : Nat) : total (ps.take k) ≤ total ps := by
  have h := total_append (ps.take k) (ps.drop k)
  rw [List.take_append_drop] at h
  omega
theorem flat_append (a b : List Part) : flat (a ++ b) = flat a ++ flat b := by simp [flat]
theorem flat_take_succ (ps : List Part) (k : Nat) (h : k < ps.length) : flat (ps.take (k + 1)) = flat (ps.take k) ++ ps[k].xs := by
  rw [List.take_succ_eq_append_getElem h, flat_append]
  congr 1
  simp [flat]
/-- Slices that lie side by side in a block, each of which reads. -/
def PartsAt (w : World) (size pb : Nat) (ps : List Part) : Prop :=
  ∀ k (hk : k < ps.length), w.cell? ⟨pb, k, none⟩ = some (.slice ps[k].A ps[k].n ps[k].c) ∧ Reads w w.heap.size size ps[k].A ps[k].n ps[k].xs ∧ ∀ u ∈ ps[k].xs, u.oneCell' = true
theorem cell_belowP {w w1 : World} (hb : Below w.heap.size w w1) {p : Addr} {v : Value} (h : w.cell? p = some v) : w1.cell? p = some v := (hb.cell (World.block_lt_of_cell? w p h)).trans h
theorem zeroCells_size (z : Array Value) (n : Nat) : (Builtin.zeroCells z n).size = n * z.size := by
  unfold Builtin.zeroCells
  simp
end Go.Proofs.YtkbbkamnmdeagaaDoor
