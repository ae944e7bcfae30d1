/-
  Arguments opened further: a frame. No condition.
-/
import Derived.Test.YtkbbkamnmdeagaaDoorOpen2
import Derived.Test.YtkbbkamnmdeagaaDoorFrmE
namespace Go.Proofs.YtkbbkamnmdeagaaDoor
open Go.ChangeShapes Go.WideShapes Go.ChangeAt Go.RowKit Go.Deep
open Go.ChangeMaps (open_string shut_string)

section
variable {H : Type} {enc : TypeId × Value → H} {W : World}
theorem wok_field {t u : TypeId} {fs : Array Field} {ps : List (DataW H)} {j : Nat} {d : DataW H} (h : Wok t (.agg ps)) (ht : Tryd.prog.underlying t = some (.struct fs)) (hj : (fs.toList.map (·.type))[j]? = some u) (hd : ps[j]? = some d) : Wok u d := fun n hn => by
  refine h n ?_
  simp only [DataW.weights, ht]
  exact DataW.weights_mem_each hj hd n hn
set_option maxRecDepth 100000 in
theorem bytes_of_cells {fuel : Nat} {cs : List Value} {x : DataW H × List MemPlace} (hf : DataW.trod enc Tryd.prog W 0 (fun _ => true) true fuel 22 cs = some x) (hw : Wok 22 x.1) :
    ∃ A l c, cs = [.slice A l.length c] ∧ l.length ≤ c ∧ c ≤ 140737488351232 ∧ Reads W W.heap.size 1 A l.length (bs l) := by
  rcases open_ints Tryd.underlying22 Tryd.underlying5 cells_u8 hf with ⟨rfl, _⟩ | ⟨x, l, c, zs, rfl, _, hl, hm, hz, rfl, hcell, hwz⟩
  · exact ⟨none, [], 0, rfl, Nat.le_refl _, Nat.zero_le _, Reads.none_⟩
  · simp at hz
    obtain ⟨l2, hl2, hr⟩ := reads_of_cells (n := l) (by omega) hcell hwz
    have hr2 := (wok_slice hw Tryd.underlying22).1
    rw [bytes_u8] at hr2
    simp only [lits, List.length_map, List.length_take, List.length_drop, reachBytes] at hr2
    exact ⟨some x, l2, c, by rw [hl2], by omega, by omega, by rw [hl2]; exact hr⟩
set_option maxRecDepth 100000 in
theorem open_frame {ts : List TypeId} {ds : List (DataW H)} {base j : Nat} {v : Value} {d : DataW H} {p : List MemPlace} (hval : Value.okWide Tryd.prog W .any base 50 v) (h : DataW.Trod enc Tryd.prog W 0 (fun _ => true) true 50 v d p)
    (hsz : (DataW.weightsEach Tryd.prog ts ds).all (· ≤ reachBytes) = true) (ht : ts[j]? = some 50) (hd : ds[j]? = some d) :
    ∃ f A c, v = frV f A c ∧ f.body.length ≤ c ∧ c ≤ 140737488351232 ∧ Reads W W.heap.size 1 A f.body.length (bs f.body) := by
  obtain ⟨f0, f1, f2, f3, he, hone, t0, t1, t2, t3⟩ : ∃ f0 f1 f2 f3 : Field, Tryd.prog.underlying 50 = some (.struct #[f0, f1, f2, f3]) ∧ oneCellFields Tryd.prog #[f0, f1, f2, f3] = true ∧ f0.type = 3 ∧ f1.type = 3 ∧ f2.type = 3 ∧ f3.type = 22 :=
    ⟨_, _, _, _, Tryd.underlying50, by kernel_rfl, rfl, rfl, rfl, rfl⟩
  obtain ⟨v0, v1, v2, v3, y0, y1, y2, y3, n, rfl, rfl, rfl, h0, h1, h2, h3⟩ := Joins.open_agg4 he hone (by kernel_rfl) hval h
  rw [t0] at h0
  rw [t1] at h1
  rw [t2] at h2
  rw [t3] at h3
  obtain ⟨K, e0, _, _⟩ := DataW.trod_int Tryd.underlying3 h0
  obtain ⟨F, e1, _, _⟩ := DataW.trod_int Tryd.underlying3 h1
  obtain ⟨S, e2, _, _⟩ := DataW.trod_int Tryd.underlying3 h2
  have hw : Wok 22 y3.1 := wok_field (wok_arg hsz ht hd) he (j := 3) (by simp [t3]) rfl
  obtain ⟨A, l, c, e3, hl, hc, hr⟩ := bytes_of_cells h3 hw
  simp only [List.cons.injEq, and_true] at e0 e1 e2 e3
  subst e0 e1 e2 e3
  exact ⟨⟨K, F, S, l⟩, A, c, rfl, hl, hc, hr⟩
end
end Go.Proofs.YtkbbkamnmdeagaaDoor
