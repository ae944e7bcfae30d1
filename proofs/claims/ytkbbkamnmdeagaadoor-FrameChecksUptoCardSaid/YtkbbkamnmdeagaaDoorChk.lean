/-
  What is wrong with a frame of a head: nothing, where it has a stream. Condition: the kind is 1 or 2, the stream is not 0.
-/
import Derived.Test.YtkbbkamnmdeagaaDoorFrmR
namespace Go.Proofs.YtkbbkamnmdeagaaDoor
open Go.RowKit

theorem results_cell1 {P : Program} {fn : Func} {p : Tmp} {ty : TypeId} {k : IntKind} (h : fn.results = #[.cell p ty]) (tmps : Array Value) (w : World) (g : Nat) (v : Value)
    (hp : tmps.getD p undef = .pointer (some ⟨g, 0, none⟩)) (hg : w.cell? ⟨g, 0, none⟩ = some v) (hu : P.underlying ty = some (.int k)) :
    (results fn tmps).run P w = .ok v w := by
  have hp' : tmps[p]?.getD undef = .pointer (some ⟨g, 0, none⟩) := by simpa using hp
  simp [results, h, hp', asAddr, loadVar, isAgg, run_underlying hu, hg, go_sem]

set_option maxRecDepth 100000 in
set_option maxHeartbeats 1000000 in
theorem sizes_head (f : Frm) (A : Option Addr) (c : Nat) (hK : f.K = 1 ∨ f.K = 2) (w : World) :
    Calls Tryd.prog 79 #[frV f A c] w fun e w' => e = .returned (.bool true) ∧ Below w.heap.size w w' := by
  obtain ⟨K, F, S, body⟩ := f
  simp only at hK
  rcases hK with rfl | rfl
  · unfold frV
    go_enter Tryd.func79, Tryd.ntmps79
    go_wp2
    go_ret
    exact ⟨rfl, (Below.refl _ _).alloc (Nat.le_refl _) _⟩
  · unfold frV
    go_enter Tryd.func79, Tryd.ntmps79
    go_wp2
    go_ret
    exact ⟨rfl, (Below.refl _ _).alloc (Nat.le_refl _) _⟩

set_option maxRecDepth 100000 in
set_option maxHeartbeats 2000000 in
theorem check_one (F : Int) (body : List UInt8) (A : Option Addr) (c : Nat) (w : World) :
    Calls Tryd.prog 37 #[.agg #[.int .i64 1, .int .i64 F, .int .i64 3, .slice A body.length c]] w fun e w' => e = .returned (.int .i64 0) ∧ Below w.heap.size w w' := by
  have hz := sizes_head ⟨1, F, 3, body⟩ A c (by simp)
  have HZ := Lib.hid hz
  clear hz
  unfold frV at HZ
  go_enter Tryd.func37, Tryd.ntmps37
  go_wp2_with fail
  refine (HZ.out _).mono ?_
  rintro e w1 ⟨rfl, hb1⟩
  have hb0 := ((Below.refl w.heap.size w).alloc (Nat.le_refl _) (.cells #[.int .i64 1, .int .i64 F, .int .i64 3, .slice A body.length c] 50)).alloc (by simp) (.cells #[.int .i64 0] 3)
  have hX : Blk ((w.alloc (.cells #[.int .i64 1, .int .i64 F, .int .i64 3, .slice A body.length c] 50)).alloc (.cells #[.int .i64 0] 3)) w.heap.size 50 #[.int .i64 1, .int .i64 F, .int .i64 3, .slice A body.length c] := (Blk.new w _ _).alloc _
  have hY : Blk ((w.alloc (.cells #[.int .i64 1, .int .i64 F, .int .i64 3, .slice A body.length c] 50)).alloc (.cells #[.int .i64 0] 3)) (w.heap.size + 1) 3 #[.int .i64 0] := by
    have := Blk.new (w.alloc (.cells #[.int .i64 1, .int .i64 F, .int .i64 3, .slice A body.length c] 50)) 3 #[.int .i64 0]
    rwa [World.size_alloc] at this
  have x1 := hX.below hb1 hX.lt
  have y1 := hY.below hb1 hY.lt
  have x0 := x1.cell 0
  have y0 := y1.cell 0
  have yf := y1.frozen 0
  have yl := y1.lt
  have HB := Lib.hid (hb0.trans (hb1.mono hb0.size))
  have HY := Lib.hid (y1.set_ 0 (.int .i64 0))
  clear hb0 hX hY x1 y1 hb1
  go_wp2
  refine bodyPost_ret (results_cell1 rfl _ _ (w.heap.size + 1) (.int .i64 0) rfl (HY.out.cell 0) Tryd.underlying3) rfl ?_
  exact ⟨rfl, HB.out.setCell (p := ⟨w.heap.size + 1, 0, none⟩) (Nat.le_succ _) _⟩
set_option maxRecDepth 100000 in
set_option maxHeartbeats 2000000 in
theorem check_two (F : Int) (body : List UInt8) (A : Option Addr) (c : Nat) (w : World) :
    Calls Tryd.prog 37 #[.agg #[.int .i64 2, .int .i64 F, .int .i64 3, .slice A body.length c]] w fun e w' => e = .returned (.int .i64 0) ∧ Below w.heap.size w w' := by
  have hz := sizes_head ⟨2, F, 3, body⟩ A c (by simp)
  have HZ := Lib.hid hz
  clear hz
  unfold frV at HZ
  go_enter Tryd.func37, Tryd.ntmps37
  go_wp2_with fail
  refine (HZ.out _).mono ?_
  rintro e w1 ⟨rfl, hb1⟩
  have hb0 := ((Below.refl w.heap.size w).alloc (Nat.le_refl _) (.cells #[.int .i64 2, .int .i64 F, .int .i64 3, .slice A body.length c] 50)).alloc (by simp) (.cells #[.int .i64 0] 3)
  have hX : Blk ((w.alloc (.cells #[.int .i64 2, .int .i64 F, .int .i64 3, .slice A body.length c] 50)).alloc (.cells #[.int .i64 0] 3)) w.heap.size 50 #[.int .i64 2, .int .i64 F, .int .i64 3, .slice A body.length c] := (Blk.new w _ _).alloc _
  have hY : Blk ((w.alloc (.cells #[.int .i64 2, .int .i64 F, .int .i64 3, .slice A body.length c] 50)).alloc (.cells #[.int .i64 0] 3)) (w.heap.size + 1) 3 #[.int .i64 0] := by
    have := Blk.new (w.alloc (.cells #[.int .i64 2, .int .i64 F, .int .i64 3, .slice A body.length c] 50)) 3 #[.int .i64 0]
    rwa [World.size_alloc] at this
  have x1 := hX.below hb1 hX.lt
  have y1 := hY.below hb1 hY.lt
  have x0 := x1.cell 0
  have y0 := y1.cell 0
  have yf := y1.frozen 0
  have yl := y1.lt
  have HB := Lib.hid (hb0.trans (hb1.mono hb0.size))
  have HY := Lib.hid (y1.set_ 0 (.int .i64 0))
  clear hb0 hX hY x1 y1 hb1
  go_wp2
  refine bodyPost_ret (results_cell1 rfl _ _ (w.heap.size + 1) (.int .i64 0) rfl (HY.out.cell 0) Tryd.underlying3) rfl ?_
  exact ⟨rfl, HB.out.setCell (p := ⟨w.heap.size + 1, 0, none⟩) (Nat.le_succ _) _⟩
theorem check_head (f : Frm) (A : Option Addr) (c : Nat) (hK : f.K = 1 ∨ f.K = 2) (hS : f.S = 3) (w : World) :
    Calls Tryd.prog 37 #[frV f A c] w fun e w' => e = .returned (.int .i64 0) ∧ Below w.heap.size w w' := by
  obtain ⟨K, F, S, body⟩ := f
  simp only at hK hS
  subst hS
  rcases hK with rfl | rfl
  · exact check_one F body A c w
  · exact check_two F body A c w
end Go.Proofs.YtkbbkamnmdeagaaDoor
