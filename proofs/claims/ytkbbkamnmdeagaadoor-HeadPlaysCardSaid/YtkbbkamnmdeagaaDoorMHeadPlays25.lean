/-
  Arguments opened further: lists of lists of fields, a list of numbers. No condition.
  Arguments opened further: a list of byte slices. No condition.
  tollsame.Fields: lists that read alike are the same. Condition: the bound on the length.
-/
import Derived.Test.YtkbbkamnmdeagaaDoorMHeadPlays24
import Derived.Deep.Slices
import Derived.Test.YtkbbkamnmdeagaaDoorMHeadPlays07
import Derived.Deep.QuietTactic
import Derived.BigQuiet
import Derived.Deep.CutRange
namespace Go.Proofs.YtkbbkamnmdeagaaDoor
open Go.ChangeShapes Go.WideShapes Go.ChangeAt Go.RowKit Go.Deep
open Go.ChangeMaps (open_string shut_string)

/-- Lists of fields in memory. -/
def FGrid (w : World) (S : Option Addr) (st : List (List Fld)) : Prop :=
  0 < st.length → ∃ b off, S = some ⟨b, off, none⟩ ∧ b < w.heap.size ∧ ∀ k (hk : k < st.length), ∃ R d, w.cell? ⟨b, off + k, none⟩ = some (.slice R st[k].length d) ∧ Reads w w.heap.size 2 R st[k].length (fvs st[k])
/-- Numbers as values. -/
def nums (l : List Int) : List Value := l.map fun x => .int .i64 x
theorem nums_length (l : List Int) : (nums l).length = l.length := by simp [nums]
theorem fgrid_row {w w1 : World} {S : Option Addr} {st : List (List Fld)} (h : FGrid w S st) (hb : Below w.heap.size w w1) {k : Nat} (hk : k < st.length) :
    ∃ b off R d, S = some ⟨b, off, none⟩ ∧ b < w1.heap.size ∧ w1.cell? ⟨b, off + k, none⟩ = some (.slice R st[k].length d) ∧ Reads w1 w.heap.size 2 R st[k].length (fvs st[k]) := by
  obtain ⟨b, off, hS, hlt, hc⟩ := h (by omega)
  obtain ⟨R, d, h1, h2⟩ := hc k hk
  exact ⟨b, off, R, d, hS, Nat.lt_of_lt_of_le hlt hb.size, (hb.cell (p := ⟨b, off + k, none⟩) hlt).trans h1, h2.below hb⟩

section
variable {H : Type} {enc : TypeId × Value → H} {W : World}
theorem plain_of_cell5 {a : Addr} {v : Value} (h : W.cell? (a.add 0) = some v) : a.spot = none := by
  have h2 := World.cell?_spot h
  simpa [Addr.add] using h2
set_option maxRecDepth 100000 in
theorem open_lists {ts : List TypeId} {ds : List (DataW H)} {base j : Nat} {v : Value} {d : DataW H} {p : List MemPlace} (hval : Value.okWide Tryd.prog W .any base 97 v) (h : DataW.Trod enc Tryd.prog W 0 (fun _ => true) true 97 v d p)
    (hsz : (DataW.weightsEach Tryd.prog ts ds).all (· ≤ reachBytes) = true) (ht : ts[j]? = some 97) (hd : ds[j]? = some d) :
    ∃ S st c, v = .slice S st.length c ∧ st.length ≤ c ∧ c * 24 ≤ 140737488351232 ∧ (∀ r ∈ st, (∀ f ∈ r, fOk f) ∧ r.length ≤ 140737488355328) ∧ FGrid W S st := by
  obtain ⟨a0, len0, cap0, rfl⟩ := okWide_slice Tryd.underlying97 hval
  obtain ⟨fuel, hf⟩ := h
  have hw := wok_arg hsz ht hd
  rcases open_slice1 Tryd.underlying97 (by kernel_rfl) hf with ⟨hcs, _⟩ | ⟨a, len, cap, m, n, V, D, Pl, hcs, hb, hl, hm, hmm, hx0, hx⟩
  · simp [Value.cells] at hcs
    obtain ⟨rfl, rfl, rfl⟩ := hcs
    exact ⟨none, [], 0, rfl, Nat.le_refl _, by omega, by simp, fun h0 => absurd h0 (by simp)⟩
  · simp [Value.cells] at hcs
    obtain ⟨rfl, rfl, rfl⟩ := hcs
    simp only [if_true] at hmm
    simp only [Prod.mk.injEq] at hx0
    rw [hx0.1] at hw
    obtain ⟨hw1, hw2⟩ := wok_slice hw Tryd.underlying97
    simp only [List.length_map, List.length_range] at hw1
    rw [show Tryd.prog.bytesOf 76 = 24 by kernel_rfl] at hw1
    simp only [reachBytes] at hw1
    have each : ∀ r, r < len0 → ∃ y : Option Addr × List Fld × Nat, V r = .slice y.1 y.2.1.length y.2.2 ∧ y.2.1.length ≤ 140737488355328 ∧ (∀ f ∈ y.2.1, fOk f) ∧ Reads W W.heap.size 2 y.1 y.2.1.length (fvs y.2.1) := by
      intro r hr
      obtain ⟨_, h2⟩ := hx r (by omega)
      obtain ⟨A, l, c, hcs, h3, h4, h5, h6⟩ := fields_of_cells h2 (hw2 (D r) (List.mem_map.2 ⟨r, List.mem_range.2 hr, rfl⟩))
      exact ⟨(A, l, c), by simpa using hcs, by simp only; omega, h5, h6⟩
    obtain ⟨y, hy⟩ := choose_lt each
    have hlen : ((List.range len0).map fun r => (y r).2.1).length = len0 := by simp
    refine ⟨some a, (List.range len0).map fun r => (y r).2.1, cap0, by rw [hlen], by omega, ?_, ?_, ?_⟩
    · have : len0 + (cap0 - len0) = cap0 := by omega
      rw [hmm, this] at hw1
      omega
    · intro row hrow
      obtain ⟨r, hr1, rfl⟩ := List.mem_map.1 hrow
      have h2 := hy r (List.mem_range.1 hr1)
      exact ⟨h2.2.2.1, h2.2.1⟩
    · intro h0
      rw [hlen] at h0
      have hp := plain_of_cell5 (hx 0 (by omega)).1
      obtain ⟨b, off, spot⟩ := a
      simp only at hp
      subst hp
      have hb := World.block_lt_of_cell? W _ (hx 0 (by omega)).1
      rw [block_of_add] at hb
      refine ⟨b, off, rfl, hb, fun k hk => ?_⟩
      rw [hlen] at hk
      have h1 := (hx k (by omega)).1
      have hk2 : ((List.range len0).map fun r => (y r).2.1)[k]'(by rw [hlen]; exact hk) = (y k).2.1 := by simp
      rw [Addr.add_lit] at h1
      rw [hk2]
      exact ⟨(y k).1, (y k).2.2, by rw [h1, (hy k hk).1], (hy k hk).2.2.2⟩
set_option maxRecDepth 100000 in
theorem open_nums {ts : List TypeId} {ds : List (DataW H)} {base j : Nat} {v : Value} {d : DataW H} {p : List MemPlace} (hval : Value.okWide Tryd.prog W .any base 84 v) (h : DataW.Trod enc Tryd.prog W 0 (fun _ => true) true 84 v d p)
    (hsz : (DataW.weightsEach Tryd.prog ts ds).all (· ≤ reachBytes) = true) (ht : ts[j]? = some 84) (hd : ds[j]? = some d) :
    ∃ A l c, v = .slice A l.length c ∧ l.length ≤ c ∧ c * 8 ≤ 140737488351232 ∧ Reads W W.heap.size 1 A l.length (nums l) := by
  obtain ⟨a0, len0, cap0, rfl⟩ := okWide_slice Tryd.underlying84 hval
  obtain ⟨fuel, hf⟩ := h
  rcases Go.ChangeShapes.open_ints Tryd.underlying84 Tryd.underlying3 (by kernel_rfl) hf with ⟨hcs, _⟩ | ⟨x, l, c, zs, hcs, _, hl, hm, hz, hx, hcell, hwz⟩
  · simp [Value.cells] at hcs
    obtain ⟨rfl, rfl, rfl⟩ := hcs
    exact ⟨none, [], 0, rfl, Nat.le_refl _, Nat.zero_le _, Reads.none_⟩
  · simp [Value.cells] at hcs
    obtain ⟨rfl, rfl, rfl⟩ := hcs
    simp at hz
    simp only [Prod.mk.injEq] at hx
    have hr2 := sized_slice hsz ht (by rw [hd, hx.1]) Tryd.underlying84
    rw [show Tryd.prog.bytesOf 3 = 8 by kernel_rfl] at hr2
    simp only [lits, List.length_map, List.length_take, List.length_drop, reachBytes] at hr2
    have hlen : (zs.take len0).length = len0 := by rw [List.length_take]; omega
    refine ⟨some x, zs.take len0, cap0, by rw [hlen], by omega, by omega, ?_⟩
    refine ⟨by rw [nums_length]; omega, fun h0 => ⟨x, rfl, ?_, ?_⟩⟩
    · rw [hlen] at h0
      have h1 := World.block_lt_of_cell? W _ (hcell 0 (by omega))
      simpa [Addr.add] using h1
    · intro j u hu
      have hj : j < (nums (zs.take len0)).length := (List.getElem?_eq_some_iff.1 hu).1
      rw [nums_length, hlen] at hj
      rw [hcell j (by omega), ← hu]
      simp only [nums, List.getElem?_map]
      rw [List.getElem?_take, if_pos (by omega), List.getElem?_eq_getElem (by omega)]
      simp [List.getD_eq_getElem?_getD, List.getElem?_eq_getElem (show j < zs.length by omega)]
end
end Go.Proofs.YtkbbkamnmdeagaaDoor
namespace Go.Proofs.YtkbbkamnmdeagaaDoor
open Go.ChangeShapes Go.WideShapes Go.ChangeAt Go.RowKit Go.Deep
open Go.ChangeMaps (open_string shut_string)

/-- Byte slices in memory. -/
def BGrid (w : World) (S : Option Addr) (st : List (List UInt8)) : Prop :=
  0 < st.length → ∃ b off, S = some ⟨b, off, none⟩ ∧ b < w.heap.size ∧ ∀ k (hk : k < st.length), ∃ R d, w.cell? ⟨b, off + k, none⟩ = some (.slice R st[k].length d) ∧ st[k].length ≤ d ∧ Reads w w.heap.size 1 R st[k].length (bs st[k])
theorem bgrid_row {w w1 : World} {S : Option Addr} {st : List (List UInt8)} (h : BGrid w S st) (hb : Below w.heap.size w w1) {k : Nat} (hk : k < st.length) :
    ∃ b off R d, S = some ⟨b, off, none⟩ ∧ b < w1.heap.size ∧ w1.cell? ⟨b, off + k, none⟩ = some (.slice R st[k].length d) ∧ st[k].length ≤ d ∧ Reads w1 w.heap.size 1 R st[k].length (bs st[k]) := by
  obtain ⟨b, off, hS, hlt, hc⟩ := h (by omega)
  obtain ⟨R, d, h1, h3, h2⟩ := hc k hk
  exact ⟨b, off, R, d, hS, Nat.lt_of_lt_of_le hlt hb.size, (hb.cell (p := ⟨b, off + k, none⟩) hlt).trans h1, h3, h2.below hb⟩

section
variable {H : Type} {enc : TypeId × Value → H} {W : World}
set_option maxRecDepth 100000 in
theorem bytes_of_cells {fuel : Nat} {cs : List Value} {x : DataW H × List MemPlace} (hf : DataW.trod enc Tryd.prog W 0 (fun _ => true) true fuel 22 cs = some x) (hw : Wok 22 x.1) :
    ∃ A l c, cs = [.slice A l.length c] ∧ l.length ≤ c ∧ c ≤ 140737488351232 ∧ Reads W W.heap.size 1 A l.length (bs l) := by
  rcases Go.ChangeShapes.open_ints Tryd.underlying22 Tryd.underlying5 cells_u8 hf with ⟨rfl, _⟩ | ⟨x, l, c, zs, rfl, _, hl, hm, hz, rfl, hcell, hwz⟩
  · exact ⟨none, [], 0, rfl, Nat.le_refl _, Nat.zero_le _, Reads.none_⟩
  · simp at hz
    obtain ⟨l2, hl2, hr⟩ := reads_of_cells (n := l) (by omega) hcell hwz
    have hr2 := (wok_slice hw Tryd.underlying22).1
    rw [bytes_u8] at hr2
    simp only [lits, List.length_map, List.length_take, List.length_drop, reachBytes] at hr2
    exact ⟨some x, l2, c, by rw [hl2], by omega, by omega, by rw [hl2]; exact hr⟩
set_option maxRecDepth 100000 in
theorem open_blocks {ts : List TypeId} {ds : List (DataW H)} {base j : Nat} {v : Value} {d : DataW H} {p : List MemPlace} (hval : Value.okWide Tryd.prog W .any base 98 v) (h : DataW.Trod enc Tryd.prog W 0 (fun _ => true) true 98 v d p)
    (hsz : (DataW.weightsEach Tryd.prog ts ds).all (· ≤ reachBytes) = true) (ht : ts[j]? = some 98) (hd : ds[j]? = some d) :
    ∃ S st c, v = .slice S st.length c ∧ st.length ≤ c ∧ c * 24 ≤ 140737488351232 ∧ (∀ r ∈ st, r.length ≤ 140737488355328) ∧ BGrid W S st := by
  obtain ⟨a0, len0, cap0, rfl⟩ := okWide_slice Tryd.underlying98 hval
  obtain ⟨fuel, hf⟩ := h
  have hw := wok_arg hsz ht hd
  rcases open_slice1 Tryd.underlying98 (by kernel_rfl) hf with ⟨hcs, _⟩ | ⟨a, len, cap, m, n, V, D, Pl, hcs, hb, hl, hm, hmm, hx0, hx⟩
  · simp [Value.cells] at hcs
    obtain ⟨rfl, rfl, rfl⟩ := hcs
    exact ⟨none, [], 0, rfl, Nat.le_refl _, by omega, by simp, fun h0 => absurd h0 (by simp)⟩
  · simp [Value.cells] at hcs
    obtain ⟨rfl, rfl, rfl⟩ := hcs
    simp only [if_true] at hmm
    simp only [Prod.mk.injEq] at hx0
    rw [hx0.1] at hw
    obtain ⟨hw1, hw2⟩ := wok_slice hw Tryd.underlying98
    simp only [List.length_map, List.length_range] at hw1
    rw [show Tryd.prog.bytesOf 22 = 24 by kernel_rfl] at hw1
    simp only [reachBytes] at hw1
    have each : ∀ r, r < len0 → ∃ y : Option Addr × List UInt8 × Nat, V r = .slice y.1 y.2.1.length y.2.2 ∧ y.2.1.length ≤ 140737488355328 ∧ y.2.1.length ≤ y.2.2 ∧ Reads W W.heap.size 1 y.1 y.2.1.length (bs y.2.1) := by
      intro r hr
      obtain ⟨_, h2⟩ := hx r (by omega)
      obtain ⟨A, l, c, hcs, h3, h4, h6⟩ := bytes_of_cells h2 (hw2 (D r) (List.mem_map.2 ⟨r, List.mem_range.2 hr, rfl⟩))
      exact ⟨(A, l, c), by simpa using hcs, by simp only; omega, h3, h6⟩
    obtain ⟨y, hy⟩ := choose_lt each
    have hlen : ((List.range len0).map fun r => (y r).2.1).length = len0 := by simp
    refine ⟨some a, (List.range len0).map fun r => (y r).2.1, cap0, by rw [hlen], by omega, ?_, ?_, ?_⟩
    · have : len0 + (cap0 - len0) = cap0 := by omega
      rw [hmm, this] at hw1
      omega
    · intro row hrow
      obtain ⟨r, hr1, rfl⟩ := List.mem_map.1 hrow
      have h2 := hy r (List.mem_range.1 hr1)
      exact h2.2.1
    · intro h0
      rw [hlen] at h0
      have hp := plain_of_cell5 (hx 0 (by omega)).1
      obtain ⟨b, off, spot⟩ := a
      simp only at hp
      subst hp
      have hb := World.block_lt_of_cell? W _ (hx 0 (by omega)).1
      rw [block_of_add] at hb
      refine ⟨b, off, rfl, hb, fun k hk => ?_⟩
      rw [hlen] at hk
      have h1 := (hx k (by omega)).1
      have hk2 : ((List.range len0).map fun r => (y r).2.1)[k]'(by rw [hlen]; exact hk) = (y k).2.1 := by simp
      rw [Addr.add_lit] at h1
      rw [hk2]
      exact ⟨(y k).1, (y k).2.2, by rw [h1, (hy k hk).1], (hy k hk).2.2.1, (hy k hk).2.2.2⟩
end
end Go.Proofs.YtkbbkamnmdeagaaDoor
namespace Go.Proofs.YtkbbkamnmdeagaaDoor
open Go.RowKit

theorem below_dF {B : Nat} {w w1 : World} (h : Below B w w1) (n : Nat) : Below B w (w1.drewN n) := ⟨h.os, h.tape, h.output, h.size, h.block⟩
set_option maxRecDepth 100000 in
set_option maxHeartbeats 2000000 in
theorem same_fields (l : List Fld) (hm : l.length ≤ 140737488355328) (A1 A2 : Option Addr) (n1 n2 c1 c2 : Nat) (hn1 : n1 = l.length) (hn2 : n2 = l.length) (w : World) (h1 : Reads w w.heap.size 2 A1 l.length (fvs l)) (h2 : Reads w w.heap.size 2 A2 l.length (fvs l)) :
    Calls Tryd.prog 66 #[.slice A1 n1 c1, .slice A2 n2 c2] w fun e w' => e = .returned (.bool true) ∧ Below w.heap.size w w' := by
  subst hn1
  subst hn2
  have H1 := Lib.hid h1
  have H2 := Lib.hid h2
  clear h1 h2
  go_enter Tryd.func66, Tryd.ntmps66
  go_wp2
  go_loopw [5] (fun i wr => ∃ k : Nat, k ≤ l.length ∧ i = .int .i64 (k : Int) ∧ Hid (Below w.heap.size w wr)) (fun i _ => l.length - (intOf i).toNat)
  case atStart => exact ⟨0, Nat.zero_le _, rfl, Below.refl _ _⟩
  case round =>
    obtain ⟨k, hk, rfl, HBr⟩ := hrel
    by_cases hlt : k < l.length
    · obtain ⟨b, off, rfl, hbB, hcl⟩ := reads_fld (H1.out.below HBr.out) (by omega)
      obtain ⟨b', off', rfl, hbB', hcl'⟩ := reads_fld (H2.out.below HBr.out) (by omega)
      obtain ⟨e0, e1⟩ := hcl k hlt
      obtain ⟨e2, e3⟩ := hcl' k hlt
      have hbr := Nat.lt_of_lt_of_le hbB HBr.out.size
      have hbr' := Nat.lt_of_lt_of_le hbB' HBr.out.size
      clear hcl hcl'
      generalize l[k] = f at *
      go_upto_region 6 with fail
      go_quiet (fail)
      go_wp2
      go_roundw
      case rel => exact ⟨k + 1, by omega, by go_num, below_dF HBr.out _⟩
      case measure => simp [intOf]; omega
    · go_wp2
      go_ret
      exact ⟨rfl, HBr.out⟩
end Go.Proofs.YtkbbkamnmdeagaaDoor
