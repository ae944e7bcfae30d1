/-
  Arguments opened further: a list of settings; a frame under the bound of the second form. No condition.
-/
import Derived.Test.YtkbbkamnmdeagaaDoorOpen3
import Derived.Test.YtkbbkamnmdeagaaDoorUpto
import Derived.Test.YtkbbkamnmdeagaaDoorSetLaw
import Derived.Deep.Slices
import Derived.OpenShut
namespace Go.Proofs.YtkbbkamnmdeagaaDoor
open Go.ChangeShapes Go.WideShapes Go.ChangeAt Go.RowKit Go.Deep
open Go.ChangeMaps (open_string shut_string)

section
variable {H : Type} {enc : TypeId × Value → H} {W : World}
theorem reads_pairs {A : Addr} {l : List Pr} (h : ∀ k (hk : k < l.length), W.cell? (A.add (k * 2)) = some (.int .i64 l[k].1) ∧ W.cell? (A.add (k * 2 + 1)) = some (.int .i64 l[k].2)) :
    Reads W W.heap.size 2 (some A) l.length (pvs l) := by
  refine ⟨pvs_length l, fun h0 => ⟨A, rfl, ?_, fun j u hu => ?_⟩⟩
  · have := World.block_lt_of_cell? W _ (h 0 h0).1
    rwa [block_of_add] at this
  · have hj : j < (pvs l).length := (List.getElem?_eq_some_iff.1 hu).1
    rw [pvs_length] at hj
    have hk : j / 2 < l.length := by omega
    obtain ⟨a0, a1⟩ := pvs_at l _ hk
    obtain ⟨c0, c1⟩ := h _ hk
    rcases (by omega : j = j / 2 * 2 ∨ j = j / 2 * 2 + 1) with e | e
    · rw [e, a0] at hu
      rw [e, c0]
      exact hu
    · rw [e, a1] at hu
      rw [e, c1]
      exact hu
set_option maxRecDepth 100000 in
/-- A [][2]int argument. -/
theorem open_pairs {ts : List TypeId} {ds : List (DataW H)} {base j : Nat} {v : Value} {d : DataW H} {p : List MemPlace} (hval : Value.okWide Tryd.prog W .any base 65 v) (h : DataW.Trod enc Tryd.prog W 0 (fun _ => true) true 65 v d p)
    (hsz : (DataW.weightsEach Tryd.prog ts ds).all (· ≤ reachBytes) = true) (ht : ts[j]? = some 65) (hd : ds[j]? = some d) :
    ∃ A l c, v = .slice A l.length c ∧ l.length ≤ c ∧ c * 16 ≤ 140737488351232 ∧ Reads W W.heap.size 2 A l.length (pvs l) := by
  obtain ⟨a0, len0, cap0, rfl⟩ := okWide_slice Tryd.underlying65 hval
  obtain ⟨fuel, hf⟩ := h
  have hw := wok_arg hsz ht hd
  have hc2 : Tryd.prog.cellsOf 69 = 2 := by kernel_rfl
  have hc1 : Tryd.prog.cellsOf 3 = 1 := by kernel_rfl
  rcases open_slice Tryd.underlying65 hf with ⟨hcs, _⟩ | ⟨a, len, cap, m, n, D, Pl, hcs, hb, hl, hm, hmm, hx0, hx⟩
  · simp [Value.cells] at hcs
    obtain ⟨rfl, rfl, rfl⟩ := hcs
    exact ⟨none, [], 0, rfl, Nat.le_refl _, by omega, Reads.none_⟩
  · simp [Value.cells] at hcs
    obtain ⟨rfl, rfl, rfl⟩ := hcs
    simp only [if_true] at hmm
    simp only [Prod.mk.injEq] at hx0
    rw [hx0.1] at hw
    obtain ⟨hw1, _⟩ := wok_slice hw Tryd.underlying65
    simp only [List.length_map, List.length_range] at hw1
    rw [show Tryd.prog.bytesOf 69 = 16 by kernel_rfl] at hw1
    simp only [reachBytes] at hw1
    have each : ∀ r, r < len0 → ∃ y : Pr, W.cell? (a.add (r * 2)) = some (.int .i64 y.1) ∧ W.cell? (a.add (r * 2 + 1)) = some (.int .i64 y.2) := by
      intro r hr
      obtain ⟨cs', h1, h2⟩ := hx r (by omega)
      rw [hc2] at h1
      obtain ⟨_, hlen, hcell⟩ := World.cells?_some h1
      obtain ⟨xs, k, hk, _, _, hxl, hf2⟩ := DataW.trod_array Tryd.underlying69 h2
      match xs, hxl, cs', hlen with
      | [y0, y1], _, [v0, v1], _ =>
        have g0 := hf2 0 (by omega)
        have g1 := hf2 1 (by omega)
        simp [hc1] at g0 g1
        obtain ⟨z0, e0, _, _⟩ := DataW.trod_int Tryd.underlying3 g0
        obtain ⟨z1, e1, _, _⟩ := DataW.trod_int Tryd.underlying3 g1
        simp only [List.cons.injEq, and_true] at e0 e1
        have q0 := hcell 0 (by omega)
        have q1 := hcell 1 (by omega)
        rw [add_add] at q0 q1
        subst e0 e1
        exact ⟨(z0, z1), by simpa using q0, by simpa using q1⟩
    obtain ⟨y, hy⟩ := choose_lt each
    have hlen : ((List.range len0).map y).length = len0 := by simp
    refine ⟨some a, (List.range len0).map y, cap0, by rw [hlen], by omega, ?_, ?_⟩
    · have : len0 + (cap0 - len0) = cap0 := by omega
      rw [hmm, this] at hw1
      omega
    · refine reads_pairs fun k hk => ?_
      rw [hlen] at hk
      simp only [List.getElem_map, List.getElem_range]
      exact hy k hk
set_option maxRecDepth 100000 in
/-- A frame under the bound. -/
theorem open_frame_u {ds : List (DataW H)} {base : Nat} {v : Value} {d : DataW H} {p : List MemPlace} (hval : Value.okWide Tryd.prog W .any base 50 v) (h : DataW.Trod enc Tryd.prog W 0 (fun _ => true) true 50 v d p)
    (hs : Rows.uptoSmall H ds = true) (hd : d ∈ ds) :
    ∃ f A c, v = frV f A c ∧ f.body.length ≤ c ∧ c ≤ 1048576 ∧ Reads W W.heap.size 1 A f.body.length (bs f.body) := by
  obtain ⟨f0, f1, f2, f3, he, hone, t0, t1, t2, t3⟩ : ∃ f0 f1 f2 f3 : Field, Tryd.prog.underlying 50 = some (.struct #[f0, f1, f2, f3]) ∧ oneCellFields Tryd.prog #[f0, f1, f2, f3] = true ∧ f0.type = 3 ∧ f1.type = 3 ∧ f2.type = 3 ∧ f3.type = 22 :=
    ⟨_, _, _, _, Tryd.underlying50, by kernel_rfl, rfl, rfl, rfl, rfl⟩
  obtain ⟨v0, v1, v2, v3, y0, y1, y2, y3, n, rfl, rfl, rfl, h0, h1, h2, h3⟩ := Joins.open_agg4 he hone (by kernel_rfl) hval h
  rw [t0] at h0
  rw [t1] at h1
  rw [t2] at h2
  rw [t3] at h3
  obtain ⟨K, e0, _, _⟩ := DataW.trod_int Tryd.underlying3 h0
  obtain ⟨F, e1, _, _⟩ := DataW.trod_int Tryd.underlying3 h1
  obtain ⟨S, e2, _, _⟩ := DataW.trod_int Tryd.underlying3 h2
  have hb : Rows.uptoBulk y3.1 ≤ 1048576 := by
    have h5 := bulk_small hs hd
    have h6 : Rows.uptoBulk y3.1 ≤ Rows.uptoBulkAll [y0.1, y1.1, y2.1, y3.1] := bulk_mem (by simp)
    simp only [Rows.uptoBulk] at h5
    omega
  simp only [List.cons.injEq, and_true] at e0 e1 e2
  subst e0 e1 e2
  rcases open_ints Tryd.underlying22 Tryd.underlying5 cells_u8 h3 with ⟨hcs, _⟩ | ⟨x, l, c, zs, hcs, _, hl, hm, hz, hx, hcell, hwz⟩
  · simp only [List.cons.injEq, and_true] at hcs
    subst hcs
    exact ⟨⟨K, F, S, []⟩, none, 0, rfl, Nat.le_refl _, Nat.zero_le _, Reads.none_⟩
  · simp only [List.cons.injEq, and_true] at hcs
    subst hcs
    simp at hz
    obtain ⟨l2, hl2, hr⟩ := reads_of_cells (n := l) (by omega) hcell hwz
    rw [hx] at hb
    simp only [Rows.uptoBulk, bulk_lits, List.length_take, List.length_drop] at hb
    exact ⟨⟨K, F, S, l2⟩, some x, c, by unfold frV; rw [hl2], by simp only; omega, by omega, by simp only; rw [hl2]; exact hr⟩
end
end Go.Proofs.YtkbbkamnmdeagaaDoor
