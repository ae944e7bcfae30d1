/-
  What the bound of the second form gives of bytes and texts. No condition.
-/
import Derived.Test.YtkbbkamnmdeagaaDoorRows
import Derived.Test.YtkbbkamnmdeagaaDoorOpen
namespace Go.Proofs.YtkbbkamnmdeagaaDoor
open Go.ChangeShapes Go.WideShapes Go.ChangeAt Go.RowKit

theorem bulk_lits {H : Type} (k : IntKind) (zs : List Int) : Rows.uptoBulkAll (lits (H := H) k zs) = zs.length := by
  induction zs with
  | nil => simp [lits, Rows.uptoBulkAll]
  | cons z zs ih =>
    have e : lits (H := H) k (z :: zs) = .lit (.int k z) :: lits k zs := rfl
    rw [e]
    simp only [Rows.uptoBulkAll, Rows.uptoBulk, ih, List.length_cons]
    omega
theorem bulk_mem {H : Type} {d : DataW H} : ∀ {ds : List (DataW H)}, d ∈ ds → Rows.uptoBulk d ≤ Rows.uptoBulkAll ds := by
  intro ds
  induction ds with
  | nil => intro h; cases h
  | cons e ds ih =>
    intro h
    simp only [Rows.uptoBulkAll]
    rcases List.mem_cons.1 h with rfl | h
    · omega
    · have := ih h
      omega
theorem bulk_small {H : Type} {ds : List (DataW H)} (h : Rows.uptoSmall H ds = true) {d : DataW H} (hd : d ∈ ds) : Rows.uptoBulk d ≤ 1048576 :=
  Nat.le_trans (bulk_mem hd) (of_decide_eq_true h)
theorem bulk_str {H : Type} {ds : List (DataW H)} (h : Rows.uptoSmall H ds = true) {l : List UInt8} (hd : (.lit (.string l) : DataW H) ∈ ds) : l.length ≤ 1048576 := by
  have := bulk_small h hd
  simp only [Rows.uptoBulk] at this
  omega
set_option maxRecDepth 100000 in
/-- A []byte argument under the bound. -/
theorem open_bytes_u {H : Type} {enc : TypeId × Value → H} {W : World} {ds : List (DataW H)} {base : Nat} {v : Value} {d : DataW H} {p : List MemPlace} (hval : Value.okWide Tryd.prog W .any base 22 v) (h : DataW.Trod enc Tryd.prog W 0 (fun _ => true) true 22 v d p)
    (hs : Rows.uptoSmall H ds = true) (hd : d ∈ ds) :
    ∃ A l cap, v = .slice A l.length cap ∧ l.length ≤ cap ∧ cap ≤ 1048576 ∧ Reads W W.heap.size 1 A l.length (bs l) := by
  obtain ⟨a0, len, cap, rfl⟩ := okWide_slice Tryd.underlying22 hval
  obtain ⟨fuel, hf⟩ := h
  rcases open_ints Tryd.underlying22 Tryd.underlying5 cells_u8 hf with ⟨hcs, _⟩ | ⟨x, l, c, zs, hcs, _, hl, hm, hz, hx, hcell, hwz⟩
  · simp [Value.cells] at hcs
    obtain ⟨rfl, rfl, rfl⟩ := hcs
    exact ⟨none, [], 0, rfl, Nat.le_refl _, Nat.zero_le _, Reads.none_⟩
  · simp [Value.cells] at hcs
    obtain ⟨rfl, rfl, rfl⟩ := hcs
    simp at hz
    obtain ⟨l, hl2, hr⟩ := reads_of_cells (n := len) (by omega) hcell hwz
    simp only [Prod.mk.injEq] at hx
    have hb := bulk_small hs hd
    rw [hx.1] at hb
    simp only [Rows.uptoBulk, bulk_lits, List.length_take, List.length_drop] at hb
    exact ⟨some x, l, cap, by rw [hl2], by omega, by omega, by rw [hl2]; exact hr⟩
end Go.Proofs.YtkbbkamnmdeagaaDoor
