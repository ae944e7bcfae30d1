/-
  Arguments opened further: lists of fields, lists of lists. No condition.
-/
import Derived.Test.YtkbbkamnmdeagaaDoorOpen
import Derived.Test.YtkbbkamnmdeagaaDoorFld
import Derived.Deep.SlicePairs
import Derived.Lib.SmallJoins
namespace Go.Proofs.YtkbbkamnmdeagaaDoor
open Go.ChangeShapes Go.WideShapes Go.ChangeAt Go.RowKit Go.Deep
open Go.ChangeMaps (open_string shut_string)

/-- No number of bytes in a datum is over the reach. -/
def Wok {H : Type} (t : TypeId) (d : DataW H) : Prop := ∀ n ∈ d.weights Tryd.prog t, n ≤ reachBytes
section
variable {H : Type}
theorem wok_arg {ts : List TypeId} {ds : List (DataW H)} {j : Nat} {t : TypeId} {d : DataW H} (hsz : (DataW.weightsEach Tryd.prog ts ds).all (· ≤ reachBytes) = true) (ht : ts[j]? = some t) (hd : ds[j]? = some d) : Wok t d := fun n hn => by
  simpa using List.all_eq_true.1 hsz _ (DataW.weights_mem_each ht hd n hn)
theorem weightsAll_mem {e : TypeId} {d : DataW H} : ∀ {ds : List (DataW H)}, d ∈ ds → ∀ n ∈ d.weights Tryd.prog e, n ∈ DataW.weightsAll Tryd.prog e ds
  | x :: r, h, n, hn => by
    simp only [DataW.weightsAll, List.mem_append]
    rcases List.mem_cons.1 h with rfl | h
    · exact .inl hn
    · exact .inr (weightsAll_mem h n hn)
theorem wok_slice {t e : TypeId} {es sp : List (DataW H)} (h : Wok t (.slice es sp)) (ht : Tryd.prog.underlying t = some (.slice e)) : (es.length + sp.length) * Tryd.prog.bytesOf e ≤ reachBytes ∧ ∀ d ∈ es, Wok e d := by
  refine ⟨h _ (by simp [DataW.weights, ht]), fun d hd n hn => h n ?_⟩
  simp only [DataW.weights, ht, List.mem_cons, List.mem_append]
  exact .inr (.inl (weightsAll_mem hd n hn))
theorem wok_str {t : TypeId} {l : List UInt8} (h : Wok (H := H) t (.lit (.string l))) : l.length ≤ 140737488351232 := by
  have := h l.length (by simp [DataW.weights])
  simpa [reachBytes] using this
theorem wok_two {t : TypeId} {f0 f1 : Field} {a b : DataW H} (h : Wok t (.agg [a, b])) (ht : Tryd.prog.underlying t = some (.struct #[f0, f1])) : Wok f0.type a ∧ Wok f1.type b := by
  constructor
  · intro n hn
    exact h n (by simp [DataW.weights, ht, DataW.weightsEach, hn])
  · intro n hn
    exact h n (by simp [DataW.weights, ht, DataW.weightsEach, hn])
end

section
variable {H : Type} {enc : TypeId × Value → H} {W : World}
theorem str_of_cell {n : Nat} {v : Value} {x : DataW H × List MemPlace} (h : DataW.trod enc Tryd.prog W 0 (fun _ => true) true n 9 [v] = some x) : ∃ l : List UInt8, v = .string ⟨l.toArray⟩ ∧ x.1 = .lit (.string l) := by
  obtain ⟨s, h1, h2, _⟩ := DataW.trod_string Tryd.underlying9 h
  refine ⟨s.data.toList, ?_, by rw [h2]⟩
  injection h1
/-- Cells that read as fields. -/
theorem reads_fields {A : Addr} {l : List Fld} (h : ∀ k (hk : k < l.length), W.cell? (A.add (k * 2)) = some (.string ⟨l[k].1.toArray⟩) ∧ W.cell? (A.add (k * 2 + 1)) = some (.string ⟨l[k].2.toArray⟩)) :
    Reads W W.heap.size 2 (some A) l.length (fvs l) := by
  refine ⟨fvs_length l, fun h0 => ⟨A, rfl, ?_, fun j u hu => ?_⟩⟩
  · have := World.block_lt_of_cell? W _ (h 0 h0).1
    rwa [block_of_add] at this
  · have hj : j < (fvs l).length := (List.getElem?_eq_some_iff.1 hu).1
    rw [fvs_length] at hj
    have hk : j / 2 < l.length := by omega
    obtain ⟨a0, a1⟩ := fvs_at l hk
    obtain ⟨c0, c1⟩ := h _ hk
    rcases (by omega : j = j / 2 * 2 ∨ j = j / 2 * 2 + 1) with e | e
    · rw [e, a0] at hu
      rw [e, c0]
      exact hu
    · rw [e, a1] at hu
      rw [e, c1]
      exact hu
theorem fld_under : Tryd.prog.underlying 76 = some (.slice 86) := Tryd.underlying76
set_option maxRecDepth 100000 in
theorem fields_of_cells {fuel : Nat} {cs : List Value} {x : DataW H × List MemPlace} (hf : DataW.trod enc Tryd.prog W 0 (fun _ => true) true fuel 76 cs = some x) (hw : Wok 76 x.1) :
    ∃ A l c, cs = [.slice A l.length c] ∧ l.length ≤ c ∧ c * 32 ≤ 140737488351232 ∧ (∀ f ∈ l, fOk f) ∧ Reads W W.heap.size 2 A l.length (fvs l) := by
  obtain ⟨f0, f1, he, o0, o1, c0, c1, t0, t1⟩ : ∃ f0 f1 : Field, Tryd.prog.underlying 86 = some (.struct #[f0, f1]) ∧ f0.offset = 0 ∧ f1.offset = 1 ∧ Tryd.prog.cellsOf f0.type = 1 ∧ Tryd.prog.cellsOf f1.type = 1 ∧ f0.type = 9 ∧ f1.type = 9 :=
    ⟨_, _, Tryd.underlying86, rfl, rfl, by kernel_rfl, by kernel_rfl, rfl, rfl⟩
  rcases open_slice_pairs fld_under he (by kernel_rfl) o0 o1 c0 c1 hf with ⟨rfl, _⟩ | ⟨a, len, cap, m, n, V0, V1, D0, D1, P0, P1, rfl, hb, hl, hm, hmm, rfl, hx⟩
  · exact ⟨none, [], 0, rfl, Nat.le_refl _, by omega, by simp, Reads.none_⟩
  · simp only [if_true] at hmm
    subst hmm
    rw [t0, t1] at hx
    obtain ⟨hw1, hw2⟩ := wok_slice hw fld_under
    simp only [List.length_map, List.length_range] at hw1
    rw [show Tryd.prog.bytesOf 86 = 32 by kernel_rfl] at hw1
    have each : ∀ i, i < len → ∃ f : Fld, (V0 i = .string ⟨f.1.toArray⟩ ∧ V1 i = .string ⟨f.2.toArray⟩) ∧ fOk f := by
      intro i hi
      obtain ⟨_, _, h0, h1⟩ := hx i (by omega)
      obtain ⟨l0, e0, d0⟩ := str_of_cell h0
      obtain ⟨l1, e1, d1⟩ := str_of_cell h1
      have := wok_two (hw2 (.agg [D0 i, D1 i]) (List.mem_map.2 ⟨i, List.mem_range.2 hi, rfl⟩)) he
      simp only at d0 d1
      rw [d0, d1, t0, t1] at this
      have l0' := wok_str this.1
      have l1' := wok_str this.2
      exact ⟨(l0, l1), ⟨e0, e1⟩, by simp only; omega, by simp only; omega⟩
    obtain ⟨F, hF⟩ := choose_lt each
    have hlen : ((List.range len).map F).length = len := by simp
    refine ⟨some a, (List.range len).map F, m, by rw [hlen], by omega, ?_, ?_, ?_⟩
    · simp only [reachBytes] at hw1
      have : len + (m - len) = m := by omega
      rw [this] at hw1
      omega
    · intro f hf
      obtain ⟨i, hi, rfl⟩ := List.mem_map.1 hf
      exact (hF i (List.mem_range.1 hi)).2
    · refine reads_fields fun k hk => ?_
      rw [hlen] at hk
      obtain ⟨h0, h1, _, _⟩ := hx k (by omega)
      have := (hF k hk).1
      simp only [List.getElem_map, List.getElem_range]
      rw [h0, h1, this.1, this.2]
      exact ⟨rfl, rfl⟩
set_option maxRecDepth 100000 in
/-- A []api.Field argument. -/
theorem open_fields {ts : List TypeId} {ds : List (DataW H)} {base j : Nat} {v : Value} {d : DataW H} {p : List MemPlace} (hval : Value.okWide Tryd.prog W .any base 76 v) (h : DataW.Trod enc Tryd.prog W 0 (fun _ => true) true 76 v d p)
    (hsz : (DataW.weightsEach Tryd.prog ts ds).all (· ≤ reachBytes) = true) (ht : ts[j]? = some 76) (hd : ds[j]? = some d) :
    ∃ A l c, v = .slice A l.length c ∧ l.length ≤ c ∧ c * 32 ≤ 140737488351232 ∧ (∀ f ∈ l, fOk f) ∧ Reads W W.heap.size 2 A l.length (fvs l) := by
  obtain ⟨a0, len, cap, rfl⟩ := okWide_slice Tryd.underlying76 hval
  obtain ⟨fuel, hf⟩ := h
  obtain ⟨A, l, c, hcs, h1⟩ := fields_of_cells hf (wok_arg hsz ht hd)
  simp [Value.cells] at hcs
  obtain ⟨rfl, rfl, rfl⟩ := hcs
  exact ⟨_, _, _, rfl, h1⟩
end
end Go.Proofs.YtkbbkamnmdeagaaDoor
