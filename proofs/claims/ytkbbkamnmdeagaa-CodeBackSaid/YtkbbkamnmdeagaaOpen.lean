/-
  Arguments opened: bytes, a string, with the form's own reach. No condition.
-/
import Derived.Test.YtkbbkamnmdeagaaMem
import Derived.ProofKit
import Derived.OpenShut
import Derived.ShutString
import Derived.SizedLaws
namespace Go.Proofs.Ytkbbkamnmdeagaa
open Go.ChangeShapes Go.WideShapes Go.ChangeAt Go.RowKit
open Go.ChangeMaps (open_string shut_string)

theorem prog_own : ownKnob Try.prog.godebug = none := by kernel_rfl
theorem prog_laidOut : laidOutB Try.prog = true := by kernel_rfl
theorem cells_u8 : Try.prog.cellsOf 5 = 1 := by kernel_rfl
theorem bytes_u8 : Try.prog.bytesOf 5 = 1 := by kernel_rfl

theorem u8_of_wf {z : Int} (h : (Lit.int .u8 z).wf = true) : 0 ≤ z ∧ z ≤ 255 := by
  simp [Lit.wf, IntKind.min, IntKind.max, IntKind.bits, IntKind.signed] at h
  omega

/-- Cells of bytes, as a list of bytes that reads. -/
theorem reads_of_cells {W : World} {x : Addr} {zs : List Int} {n : Nat} (hn : n ≤ zs.length) (hcell : ∀ i, i < zs.length → W.cell? (x.add i) = some (.int .u8 (zs.getD i 0))) (hwz : ∀ n ∈ zs, (Lit.int .u8 n).wf = true) :
    ∃ l : List UInt8, l.length = n ∧ Reads W W.heap.size 1 (some x) n (bs l) := by
  refine ⟨(zs.take n).map (fun z => UInt8.ofNat z.toNat), by simp; omega, ⟨by simp [bs]; omega, fun h0 => ⟨x, rfl, ?_, ?_⟩⟩⟩
  · have h1 := World.block_lt_of_cell? W _ (hcell 0 (by omega))
    simpa [Addr.add] using h1
  · intro j u hu
    have hj : j < (bs ((zs.take n).map (fun z => UInt8.ofNat z.toNat))).length := (List.getElem?_eq_some_iff.1 hu).1
    simp [bs] at hj
    have hz := u8_of_wf (hwz (zs[j]'(by omega)) (List.getElem_mem _))
    rw [hcell j (by omega), ← hu]
    simp only [bs, List.map_map, List.getElem?_map]
    rw [List.getElem?_take, if_pos (by omega), List.getElem?_eq_getElem (by omega)]
    simp only [Option.map_some, Function.comp, UInt8.toNat_ofNat', List.getD_eq_getElem?_getD, List.getElem?_eq_getElem (show j < zs.length by omega), Option.getD_some]
    congr 2
    omega

section
variable {H : Type} {enc : TypeId × Value → H} {W : World} {ts : List TypeId} {ds : List (DataW H)} {base j : Nat} {v : Value} {d : DataW H} {p : List MemPlace}
set_option maxRecDepth 100000 in
/-- A []byte argument. -/
theorem open_bytes (hval : Value.okWide Try.prog W .any base 26 v) (h : DataW.Trod enc Try.prog W 0 (fun _ => true) true 26 v d p)
    (hsz : (DataW.weightsEach Try.prog ts ds).all (· ≤ reachBytes) = true) (ht : ts[j]? = some 26) (hd : ds[j]? = some d) :
    ∃ A l cap, v = .slice A l.length cap ∧ l.length ≤ cap ∧ cap ≤ 140737488351232 ∧ Reads W W.heap.size 1 A l.length (bs l) := by
  obtain ⟨a0, len, cap, rfl⟩ := okWide_slice Try.underlying26 hval
  obtain ⟨fuel, hf⟩ := h
  rcases open_ints Try.underlying26 Try.underlying5 cells_u8 hf with ⟨hcs, _⟩ | ⟨x, l, c, zs, hcs, _, hl, hm, hz, hx, hcell, hwz⟩
  · simp [Value.cells] at hcs
    obtain ⟨rfl, rfl, rfl⟩ := hcs
    exact ⟨none, [], 0, rfl, Nat.le_refl _, Nat.zero_le _, Reads.none_⟩
  · simp [Value.cells] at hcs
    obtain ⟨rfl, rfl, rfl⟩ := hcs
    simp at hz
    obtain ⟨l, hl2, hr⟩ := reads_of_cells (n := len) (by omega) hcell hwz
    simp only [Prod.mk.injEq] at hx
    have hr2 := sized_slice hsz ht (by rw [hd, hx.1]) Try.underlying26
    rw [bytes_u8] at hr2
    simp only [lits, List.length_map, List.length_take, List.length_drop, reachBytes] at hr2
    exact ⟨some x, l, cap, by rw [hl2], by omega, by omega, by rw [hl2]; exact hr⟩
set_option maxRecDepth 100000 in
/-- A string argument. -/
theorem open_str (hval : Value.okWide Try.prog W .any base 9 v) (h : DataW.Trod enc Try.prog W 0 (fun _ => true) true 9 v d p)
    (hsz : (DataW.weightsEach Try.prog ts ds).all (· ≤ reachBytes) = true) (ht : ts[j]? = some 9) (hd : ds[j]? = some d) :
    ∃ l : List UInt8, v = .string ⟨l.toArray⟩ ∧ d = .lit (.string l) ∧ p = [] ∧ l.length ≤ 140737488351232 := by
  obtain ⟨s, rfl, rfl, rfl, hs⟩ := open_string Try.underlying9 hval h
  have h2 := sized_string hsz ht hd
  simp only [reachBytes] at h2
  exact ⟨s.data.toList, rfl, rfl, rfl, h2⟩
end
end Go.Proofs.Ytkbbkamnmdeagaa
