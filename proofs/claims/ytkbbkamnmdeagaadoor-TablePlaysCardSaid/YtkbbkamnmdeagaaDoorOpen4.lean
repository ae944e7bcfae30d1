/-
  Arguments opened further: rows of numbers. No condition.
-/
import Derived.Test.YtkbbkamnmdeagaaDoorOpen2
import Derived.Test.YtkbbkamnmdeagaaDoorTablePlaysWalk
import Derived.Deep.Matrix
namespace Go.Proofs.YtkbbkamnmdeagaaDoor
open Go.ChangeShapes Go.WideShapes Go.ChangeAt Go.RowKit Go.Deep
open Go.ChangeMaps (open_string shut_string)

section
variable {H : Type} {enc : TypeId × Value → H} {W : World}
theorem plain_of_cell {a : Addr} {v : Value} (h : W.cell? (a.add 0) = some v) : a.spot = none := by
  have h2 := World.cell?_spot h
  simpa [Addr.add] using h2
set_option maxRecDepth 100000 in
theorem open_steps {ts : List TypeId} {ds : List (DataW H)} {base j : Nat} {v : Value} {d : DataW H} {p : List MemPlace} (hval : Value.okWide Tryd.prog W .any base 77 v) (h : DataW.Trod enc Tryd.prog W 0 (fun _ => true) true 77 v d p)
    (hsz : (DataW.weightsEach Tryd.prog ts ds).all (· ≤ reachBytes) = true) (ht : ts[j]? = some 77) (hd : ds[j]? = some d) :
    ∃ S st c, v = .slice S st.length c ∧ st.length ≤ c ∧ c * 24 ≤ 140737488351232 ∧ (∀ r ∈ st, r.length ≤ 140737488355328) ∧ Grid W S st := by
  obtain ⟨a0, len0, cap0, rfl⟩ := okWide_slice Tryd.underlying77 hval
  obtain ⟨fuel, hf⟩ := h
  have hw := wok_arg hsz ht hd
  rcases open_int_rows Tryd.underlying77 Tryd.underlying84 Tryd.underlying3 (by kernel_rfl) (by kernel_rfl) hf with ⟨hcs, _⟩ | ⟨a, len, cap, A, L, C, Z, hcs, _, hl, hm, hx, hr⟩
  · simp [Value.cells] at hcs
    obtain ⟨rfl, rfl, rfl⟩ := hcs
    exact ⟨none, [], 0, rfl, Nat.le_refl _, by omega, by simp, fun h0 => absurd h0 (by simp)⟩
  · simp [Value.cells] at hcs
    obtain ⟨rfl, rfl, rfl⟩ := hcs
    simp only [Prod.mk.injEq] at hx
    rw [hx.1] at hw
    obtain ⟨hw1, hw2⟩ := wok_slice hw Tryd.underlying77
    simp only [List.length_map, List.length_range] at hw1
    rw [show Tryd.prog.bytesOf 84 = 24 by kernel_rfl] at hw1
    simp only [reachBytes] at hw1
    have hlen : ((List.range len0).map fun r => (Z r).take (L r)).length = len0 := by simp
    have hll : ∀ r, r < len0 → ((Z r).take (L r)).length = L r := by
      intro r hr1
      obtain ⟨_, h1, _, h3, _⟩ := hr r (by omega)
      rw [List.length_take]
      omega
    refine ⟨some a, (List.range len0).map fun r => (Z r).take (L r), cap0, by rw [hlen], by omega, ?_, ?_, ?_⟩
    · have : len0 + (cap0 - len0) = cap0 := by omega
      rw [this] at hw1
      omega
    · intro row hrow
      obtain ⟨r, hr1, rfl⟩ := List.mem_map.1 hrow
      have hr2 := List.mem_range.1 hr1
      rw [hll r hr2]
      have hk := hw2 _ (List.mem_map.2 ⟨r, hr1, rfl⟩)
      obtain ⟨_, h1, _, h3, _, h5, _⟩ := hr r (by omega)
      cases hA : A r with
      | none => have := h5 hA; omega
      | some a' =>
        rw [hA] at hk
        unfold intRow at hk
        have h7 := (wok_slice hk Tryd.underlying84).1
        simp only [lits, List.length_map, List.length_take, List.length_drop] at h7
        rw [show Tryd.prog.bytesOf 3 = 8 by kernel_rfl] at h7
        simp only [reachBytes] at h7
        omega
    · intro h0
      rw [hlen] at h0
      have hp := plain_of_cell (hr 0 (by omega)).1
      obtain ⟨b, off, spot⟩ := a
      simp only at hp
      subst hp
      have hb := World.block_lt_of_cell? W _ (hr 0 (by omega)).1
      rw [block_of_add] at hb
      refine ⟨b, off, rfl, hb, fun k hk => ?_⟩
      rw [hlen] at hk
      obtain ⟨h1, h2, _, h4, _, h6, h7⟩ := hr k (by omega)
      have hk2 : ((List.range len0).map fun r => (Z r).take (L r))[k]'(by rw [hlen]; exact hk) = (Z k).take (L k) := by simp
      have hlk := hll k hk
      obtain ⟨row, hrow⟩ : ∃ row, (Z k).take (L k) = row := ⟨_, rfl⟩
      rw [hk2, hrow]
      rw [hrow] at hlk
      rw [Addr.add_lit] at h1
      rw [← hlk] at h1
      refine ⟨A k, C k, h1, fun hL => ?_⟩
      cases hA : A k with
      | none => have := h6 hA; omega
      | some a' =>
        obtain ⟨_, hc⟩ := h7 a' hA
        have hp := plain_of_cell (hc 0 (by omega))
        obtain ⟨rb, ro, spot⟩ := a'
        simp only at hp
        subst hp
        have hrb := World.block_lt_of_cell? W _ (hc 0 (by omega))
        rw [block_of_add] at hrb
        refine ⟨rb, ro, rfl, hrb, fun j hj => ?_⟩
        have hj2 : j < L k := by omega
        have h8 := hc j (by omega)
        rw [Addr.add_lit] at h8
        rw [h8]
        subst hrow
        simp [List.getD_eq_getElem?_getD, List.getElem?_eq_getElem (show j < (Z k).length by omega)]
end
theorem tablePlays_any (m : Int) (l : List Fld) (A : Option Addr) (c : Nat) (st : List (List Int)) (S : Option Addr) (sc : Nat) (w : World) (hE : ErrType w) (hl : l.length ≤ 140737488355328) (hfs : ∀ f ∈ l, fOk f) (hr : Reads w w.heap.size 2 A l.length (fvs l))
    (hg : Grid w S st) (hsl : st.length ≤ 140737488355328) (hrl : ∀ r ∈ st, r.length ≤ 140737488355328) :
    Calls Tryd.prog 11 #[.int .i64 m, .slice A l.length c, .slice S st.length sc] w fun e w' => e = .returned (.bool true) ∧ Below w.heap.size w w' := by
  by_cases h : m < 0 ∨ 4096 < m
  · exact tablePlays_bad m h _ _ w hE
  · obtain ⟨k, rfl⟩ := Int.eq_ofNat_of_zero_le (show 0 ≤ m by omega)
    exact tablePlays_walk k (by omega) l A c st S sc w hE hl hfs hr hg hsl hrl
end Go.Proofs.YtkbbkamnmdeagaaDoor
