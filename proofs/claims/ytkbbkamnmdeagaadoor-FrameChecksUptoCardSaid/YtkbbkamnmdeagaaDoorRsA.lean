/-
  frame.ReadSets' row of settings: the worlds between two rounds. No condition.
-/
import Derived.Test.YtkbbkamnmdeagaaDoorSetLaw
import Derived.Test.YtkbbkamnmdeagaaDoorChunk6
namespace Go.Proofs.YtkbbkamnmdeagaaDoor
open Go.RowKit

/-- The setting that a piece is; the settings of pieces. -/
def pr6 (body : List UInt8) (j : Nat) : Pr := ((setId (pc6 body j) : Int), (setX (pc6 body j) : Int))
def prs {m : Nat} (body : List UInt8) (pre : List (Fin m)) : List Pr := pre.map fun x => pr6 body x.1
theorem prs_snoc {m : Nat} (body : List UInt8) (pre : List (Fin m)) (x : Fin m) : prs body (pre ++ [x]) = prs body pre ++ [pr6 body x.1] := by simp [prs]
theorem prs_length {m : Nat} (body : List UInt8) (pre : List (Fin m)) : (prs body pre).length = pre.length := by simp [prs]
theorem prs_all {m : Nat} (body : List UInt8) (ys : List (Fin m)) (h : ys.map Fin.val = List.range m) : prs body ys = pc6s body m := by
  have : prs body ys = (ys.map Fin.val).map (pr6 body) := by simp [prs]
  rw [this, h]
  rfl
theorem pair_info : (Tryd.prog.info? 69).map (fun i => (i.zero, i.size, i.bytes)) = some (some (.agg #[.int .i64 0, .int .i64 0]), 2, 16) := by kernel_rfl
theorem cells2_new (w : World) (a b : Value) (t : TypeId) : ∀ j u, [a, b][j]? = some u → (w.alloc (.cells #[a, b] t)).cell? ((⟨w.heap.size, 0, none⟩ : Addr).add j) = some u := by
  intro j u hj
  have h := (Blk.new w t #[a, b]).cell j
  rw [Addr.add_lit, Nat.zero_add, h]
  simpa using hj

/-- Where the loop of ReadSets stands. -/
structure RsAt {m : Nat} (B0 Q : Nat) (body : List UInt8) (A : Option Addr) (len cap : Nat) (v : Value) (pre : List (Fin m)) (W : World) : Prop where
  box : Boxed W Q 65 v
  row : W.ownsRow B0 69 2 v pre.length (pvs (prs body pre))
  r0 : Boxed W B0 65 (.slice none 0 0)
  r1 : Boxed W (B0 + 1) 26 .nilIface
  b : Boxed W (Q + 1) 22 (.slice A len cap)
  n : Boxed W (Q + 1 + 1) 3 (.int .i64 6)
section
variable {m B0 Q len cap : Nat} {body : List UInt8} {A : Option Addr} {v : Value} {pre : List (Fin m)} {W W' w1 : World} {row : Option Nat}
theorem RsAt.kept (h : RsAt B0 Q body A len cap v pre W) (hg : W.grownBy W' row) (hr : ∀ r, row = some r → ∃ o : Obj, W.heap[r]? = some o ∧ o.isCells = false) : RsAt B0 Q body A len cap v pre W' :=
  ⟨box_kept_nc h.box hg hr, own_kept_nc h.row hg hr, box_kept_nc h.r0 hg hr, box_kept_nc h.r1 hg hr, box_kept_nc h.b hg hr, box_kept_nc h.n hg hr⟩
theorem RsAt.below (h : RsAt B0 Q body A len cap v pre W) (hb : Below W.heap.size W W') : RsAt B0 Q body A len cap v pre W' := h.kept (row := none) (grown_of_below hb) (fun r e => by cases e)

/-- One round. -/
theorem rs_step (h : RsAt B0 Q body A len cap v pre W) (hQ : Q = B0 + 2) (hW : B0 ≤ W.heap.size) (hpre : pre.length + 1 ≤ 1000000000000) (hb : Below W.heap.size W w1) (x : Fin m) :
    ∃ g' cap' w2, (Builtin.append_ #[65, 65] 65 #[v, .slice (some ⟨w1.heap.size, 0, none⟩) 1 1]).run Tryd.prog (w1.alloc (.cells #[.int .i64 (setId (pc6 body x.1) : Nat), .int .i64 (setX (pc6 body x.1) : Nat)] 69)) = .ok (.slice (some ⟨g', 0, none⟩) (pre.length + 1) cap') w2 ∧
      w2.cell? ⟨Q, 0, none⟩ = some v ∧ w2.frozen? ⟨Q, 0, none⟩ = false ∧ Below B0 W w2 ∧
      RsAt B0 Q body A len cap (.slice (some ⟨g', 0, none⟩) (pre.length + 1) cap') (pre ++ [x]) (w2.setCell ⟨Q, 0, none⟩ (.slice (some ⟨g', 0, none⟩) (pre.length + 1) cap')) ∧
      KeepC (Q + 1) (Q + 1 + 1) W (w2.setCell ⟨Q, 0, none⟩ (.slice (some ⟨g', 0, none⟩) (pre.length + 1) cap')) ∧
      KeepsOthers W (w2.setCell ⟨Q, 0, none⟩ (.slice (some ⟨g', 0, none⟩) (pre.length + 1) cap')) ∧
      Below B0 W (w2.setCell ⟨Q, 0, none⟩ (.slice (some ⟨g', 0, none⟩) (pre.length + 1) cap')) := by
  have h1 := h.below hb
  obtain ⟨i0, hi, hz0, hz1, hz2⟩ := info_parts pair_info
  obtain ⟨Wa, hWa⟩ : ∃ Wa, w1.alloc (.cells #[.int .i64 (setId (pc6 body x.1) : Nat), .int .i64 (setX (pc6 body x.1) : Nat)] 69) = Wa := ⟨_, rfl⟩
  have hga : w1.grownBy Wa none := by rw [← hWa]; exact World.grownBy_alloc w1 _ none
  have ha := h1.kept hga (fun r e => by cases e)
  have hsz := hb.size
  have hsza := hga.size
  have hcn := cells2_new w1 (.int .i64 (setId (pc6 body x.1) : Nat)) (.int .i64 (setX (pc6 body x.1) : Nat)) 69
  rw [hWa] at hcn ⊢
  obtain ⟨v', w2, hrun, hown2, hg2, -⟩ := run_append_own (P := Tryd.prog) (w := Wa) B0 65 65 69 i0 _ 2 16 Tryd.underlying65 hi hz0 hz1 hz2 rfl (by decide) v pre.length (pvs (prs body pre)) ha.row ⟨w1.heap.size, 0, none⟩ 1 1 [.int .i64 (setId (pc6 body x.1) : Nat), .int .i64 (setX (pc6 body x.1) : Nat)] rfl hcn
    (by intro u hu; simp only [List.mem_cons, List.not_mem_nil, or_false] at hu; rcases hu with rfl | rfl <;> rfl) (by unfold maxLen; omega) (by omega) (by omega)
  obtain ⟨g', cap', rfl⟩ := ownsRow_succ hown2
  have hb2 : Boxed w2 Q 65 v := ha.box.kept hg2 (ha.box.not_row (by decide) ha.row)
  have hr02 := ha.r0.kept hg2 (ha.r0.not_row (by decide) ha.row)
  have hr12 := ha.r1.kept hg2 (ha.r1.not_row (by decide) ha.row)
  have hbb2 := ha.b.kept hg2 (ha.b.not_row (by decide) ha.row)
  have hn2 := ha.n.kept hg2 (ha.n.not_row (by decide) ha.row)
  have hgs := grownBy_setCell' w2 Q (.slice (some ⟨g', 0, none⟩) (pre.length + 1) cap')
  have hr03 := hr02.other (B' := Q) (by omega) (.slice (some ⟨g', 0, none⟩) (pre.length + 1) cap')
  have hr13 := hr12.other (B' := Q) (by omega) (.slice (some ⟨g', 0, none⟩) (pre.length + 1) cap')
  have hbb3 := hbb2.other (B' := Q) (by omega) (.slice (some ⟨g', 0, none⟩) (pre.length + 1) cap')
  have hn3 := hn2.other (B' := Q) (by omega) (.slice (some ⟨g', 0, none⟩) (pre.length + 1) cap')
  have hbw2 : Below B0 W w2 := by
    have b1 : Below B0 W Wa := by rw [← hWa]; exact (hb.mono hW).alloc (by omega) _
    exact b1.grown hg2 (by omega) fun j ej => (ha.row.lt j ej).1
  refine ⟨g', cap', w2, hrun, hb2.cell, hb2.frozen, hbw2, ⟨hb2.set _, ?_, hr03, hr13, hbb3, hn3⟩, ⟨by rw [hbb3.cell, h.b.cell], by rw [hn3.cell, h.n.cell]⟩, ?_, ?_⟩
  · rw [prs_snoc, pvs_snoc, List.length_append]
    exact hown2.kept hgs (.inr (fun e => own_blk_ne hown2 (show Blk w2 Q 65 #[v] from hb2) (by decide) e))
  · have k0 : KeepsOthers W w1 := ⟨hb.size, fun k o hk _ => (hb.block k (Array.getElem?_eq_some_iff.1 hk).1).trans hk⟩
    have k1 : KeepsOthers w1 Wa := by rw [← hWa]; exact KeepsOthers.alloc _ _
    refine ((k0.trans k1).trans (KeepsOthers.of_grownBy hg2 fun j o ej hj => ?_)).trans (KeepsOthers.setCell _ _ _)
    rcases ha.row.2 with ⟨rfl, _⟩ | ⟨g, cap, cur, rfl, _, hgb, _⟩
    · simp [Value.ownBlock] at ej
    · obtain rfl : g = j := by simpa [Value.ownBlock] using ej
      rw [hgb] at hj; cases hj; rfl
  · exact hbw2.setCell (p := ⟨Q, 0, none⟩) (by show B0 ≤ Q; omega) _
end
end Go.Proofs.YtkbbkamnmdeagaaDoor
