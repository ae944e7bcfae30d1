/-
  The program's Check of a wider window's frame: its contract. Condition: the bound on the bytes.
-/
import Derived.Test.YtkbbkamnmdeagaaDoorFcB
namespace Go.Proofs.YtkbbkamnmdeagaaDoor
open Go.RowKit

set_option maxRecDepth 100000 in
set_option maxHeartbeats 1200000 in
theorem fchk7 (F S : Int) (body : List UInt8) (A : Option Addr) (c : Nat) (hm : body.length ≤ 140737488355328) (w : World) (hr : Reads w w.heap.size 1 A body.length (bs body)) :
    Calls Tryd.prog 37 #[frV ⟨7, F, S, body⟩ A c] w fun e w' => e = .returned (.int .i64 ((chkF ⟨7, F, S, body⟩ : Nat) : Int)) ∧ Below w.heap.size w w' := by
  obtain ⟨n, hn0⟩ : ∃ n, body.length = n := ⟨_, rfl⟩
  rw [hn0] at hm
  by_cases h : n = 4
  · obtain ⟨x, hx⟩ : ∃ x, beNat body = x := ⟨_, rfl⟩
    subst h
    have HR := Lib.hid (show Reads w w.heap.size 1 A 4 (bs body) by rw [hn0] at hr; exact hr)
    have HXB := Lib.hid hx
    by_cases h0 : x = 0
    · have HV := Lib.hid (show 1 = chkF ⟨7, F, S, body⟩ by simp [chkF, hn0, hx, h0])
      subst h0
      clear hx
      obtain ⟨hb0, hX, hY⟩ := chk_mem w 7 F S A 4 c 0
      have HZ := Lib.hid (sizes_is (K := 7) (F := F) (S := S) (body := body) hn0 (by omega) A c (show sizeOk 7 F 4 = true by simp [sizeOk]))
      have HB0 := Lib.hid hb0
      have HX := Lib.hid hX
      have HY0 := Lib.hid hY
      have HN0 := Lib.hid hn0
      clear hb0 hX hY hn0 hr
      unfold frV
      rw [HN0.out]
      go_enter Tryd.func37, Tryd.ntmps37
      go_wp2_with fail
      refine (HZ.out _).mono ?_
      rintro e w1 ⟨rfl, hb1⟩
      have x1 := HX.out.below hb1 HX.out.lt
      have y1 := HY0.out.below hb1 HY0.out.lt
      have x0 := x1.cell 0
      have x3 := x1.cell 3
      have y0 := y1.cell 0
      have yf := y1.frozen 0
      have yl := y1.lt
      have HB1 := Lib.hid (HB0.out.trans (hb1.mono HB0.out.size))
      have HX := Lib.hid x1
      have HY0 := Lib.hid y1
      clear x1 y1 hb1
      go_wp2_with fail
      refine (fword_is body HN0.out A c w.heap.size w1 (HR.out.below HB1.out)).mono ?_
      rintro e w2 ⟨rfl, hb2⟩
      rw [HXB.out]
      clear x0 x3 y0 yf yl
      have x1 := HX.out.below hb2 HX.out.lt
      have y1 := HY0.out.below hb2 HY0.out.lt
      have x0 := x1.cell 0
      have x3 := x1.cell 3
      have y0 := y1.cell 0
      have yf := y1.frozen 0
      have yl := y1.lt
      have HB2 := Lib.hid (HB1.out.trans (hb2.mono HB1.out.size))
      have HX := Lib.hid x1
      have HY0 := Lib.hid y1
      clear x1 y1 hb2
      have HY := Lib.hid (HY0.out.set_ 0 (.int .i64 1))
      have HB := HB2
      go_wp2
      refine bodyPost_ret (results_cell1 rfl _ _ (w.heap.size + 1) (.int .i64 1) rfl (HY.out.cell 0) Tryd.underlying3) rfl ?_
      exact ⟨congrArg (fun z : Nat => Ending.returned (Value.int .i64 (z : Int))) HV.out, HB.out.setCell (p := ⟨w.heap.size + 1, 0, none⟩) (Nat.le_succ _) _⟩
    · have j1 : (((x : Nat) : Int) == 0) = false := (eqb x 0).trans (decide_eq_false h0)
      have j4 : ¬ ((x : Nat) : Int) = 0 := by omega
      by_cases xm : 2147483647 < x
      · have HV := Lib.hid (show 1 = chkF ⟨7, F, S, body⟩ by simp [chkF, hn0, hx, xm])
        have j2 : (2147483647 : Int) < ((x : Nat) : Int) := by omega
        have j3 := decide_eq_true j2
        clear hx
        obtain ⟨hb0, hX, hY⟩ := chk_mem w 7 F S A 4 c 0
        have HZ := Lib.hid (sizes_is (K := 7) (F := F) (S := S) (body := body) hn0 (by omega) A c (show sizeOk 7 F 4 = true by simp [sizeOk]))
        have HB0 := Lib.hid hb0
        have HX := Lib.hid hX
        have HY0 := Lib.hid hY
        have HN0 := Lib.hid hn0
        clear hb0 hX hY hn0 hr
        unfold frV
        rw [HN0.out]
        go_enter Tryd.func37, Tryd.ntmps37
        go_wp2_with fail
        refine (HZ.out _).mono ?_
        rintro e w1 ⟨rfl, hb1⟩
        have x1 := HX.out.below hb1 HX.out.lt
        have y1 := HY0.out.below hb1 HY0.out.lt
        have x0 := x1.cell 0
        have x3 := x1.cell 3
        have y0 := y1.cell 0
        have yf := y1.frozen 0
        have yl := y1.lt
        have HB1 := Lib.hid (HB0.out.trans (hb1.mono HB0.out.size))
        have HX := Lib.hid x1
        have HY0 := Lib.hid y1
        clear x1 y1 hb1
        go_wp2_with fail
        refine (fword_is body HN0.out A c w.heap.size w1 (HR.out.below HB1.out)).mono ?_
        rintro e w2 ⟨rfl, hb2⟩
        rw [HXB.out]
        clear x0 x3 y0 yf yl
        have x1 := HX.out.below hb2 HX.out.lt
        have y1 := HY0.out.below hb2 HY0.out.lt
        have x0 := x1.cell 0
        have x3 := x1.cell 3
        have y0 := y1.cell 0
        have yf := y1.frozen 0
        have yl := y1.lt
        have HB2 := Lib.hid (HB1.out.trans (hb2.mono HB1.out.size))
        have HX := Lib.hid x1
        have HY0 := Lib.hid y1
        clear x1 y1 hb2
        go_wp2_with fail
        refine (fword_is body HN0.out A c w.heap.size w2 (HR.out.below HB2.out)).mono ?_
        rintro e w3 ⟨rfl, hb3⟩
        rw [HXB.out]
        clear x0 x3 y0 yf yl
        have x1 := HX.out.below hb3 HX.out.lt
        have y1 := HY0.out.below hb3 HY0.out.lt
        have x0 := x1.cell 0
        have x3 := x1.cell 3
        have y0 := y1.cell 0
        have yf := y1.frozen 0
        have yl := y1.lt
        have HB2 := Lib.hid (HB2.out.trans (hb3.mono HB2.out.size))
        have HX := Lib.hid x1
        have HY0 := Lib.hid y1
        clear x1 y1 hb3
        have HY := Lib.hid (HY0.out.set_ 0 (.int .i64 1))
        have HB := HB2
        go_wp2
        refine bodyPost_ret (results_cell1 rfl _ _ (w.heap.size + 1) (.int .i64 1) rfl (HY.out.cell 0) Tryd.underlying3) rfl ?_
        exact ⟨congrArg (fun z : Nat => Ending.returned (Value.int .i64 (z : Int))) HV.out, HB.out.setCell (p := ⟨w.heap.size + 1, 0, none⟩) (Nat.le_succ _) _⟩
      · have HV := Lib.hid (show 0 = chkF ⟨7, F, S, body⟩ by simp [chkF, hn0, hx, xm, h0])
        have j2 : ¬ (2147483647 : Int) < ((x : Nat) : Int) := by omega
        have j3 := decide_eq_false j2
        clear hx
        obtain ⟨hb0, hX, hY⟩ := chk_mem w 7 F S A 4 c 0
        have HZ := Lib.hid (sizes_is (K := 7) (F := F) (S := S) (body := body) hn0 (by omega) A c (show sizeOk 7 F 4 = true by simp [sizeOk]))
        have HB0 := Lib.hid hb0
        have HX := Lib.hid hX
        have HY0 := Lib.hid hY
        have HN0 := Lib.hid hn0
        clear hb0 hX hY hn0 hr
        unfold frV
        rw [HN0.out]
        go_enter Tryd.func37, Tryd.ntmps37
        go_wp2_with fail
        refine (HZ.out _).mono ?_
        rintro e w1 ⟨rfl, hb1⟩
        have x1 := HX.out.below hb1 HX.out.lt
        have y1 := HY0.out.below hb1 HY0.out.lt
        have x0 := x1.cell 0
        have x3 := x1.cell 3
        have y0 := y1.cell 0
        have yf := y1.frozen 0
        have yl := y1.lt
        have HB1 := Lib.hid (HB0.out.trans (hb1.mono HB0.out.size))
        have HX := Lib.hid x1
        have HY0 := Lib.hid y1
        clear x1 y1 hb1
        go_wp2_with fail
        refine (fword_is body HN0.out A c w.heap.size w1 (HR.out.below HB1.out)).mono ?_
        rintro e w2 ⟨rfl, hb2⟩
        rw [HXB.out]
        clear x0 x3 y0 yf yl
        have x1 := HX.out.below hb2 HX.out.lt
        have y1 := HY0.out.below hb2 HY0.out.lt
        have x0 := x1.cell 0
        have x3 := x1.cell 3
        have y0 := y1.cell 0
        have yf := y1.frozen 0
        have yl := y1.lt
        have HB2 := Lib.hid (HB1.out.trans (hb2.mono HB1.out.size))
        have HX := Lib.hid x1
        have HY0 := Lib.hid y1
        clear x1 y1 hb2
        go_wp2_with fail
        refine (fword_is body HN0.out A c w.heap.size w2 (HR.out.below HB2.out)).mono ?_
        rintro e w3 ⟨rfl, hb3⟩
        rw [HXB.out]
        clear x0 x3 y0 yf yl
        have x1 := HX.out.below hb3 HX.out.lt
        have y1 := HY0.out.below hb3 HY0.out.lt
        have x0 := x1.cell 0
        have x3 := x1.cell 3
        have y0 := y1.cell 0
        have yf := y1.frozen 0
        have yl := y1.lt
        have HB2 := Lib.hid (HB2.out.trans (hb3.mono HB2.out.size))
        have HX := Lib.hid x1
        have HY0 := Lib.hid y1
        clear x1 y1 hb3
        have HY := Lib.hid (HY0.out.set_ 0 (.int .i64 0))
        have HB := HB2
        go_wp2
        refine bodyPost_ret (results_cell1 rfl _ _ (w.heap.size + 1) (.int .i64 0) rfl (HY.out.cell 0) Tryd.underlying3) rfl ?_
        exact ⟨congrArg (fun z : Nat => Ending.returned (Value.int .i64 (z : Int))) HV.out, HB.out.setCell (p := ⟨w.heap.size + 1, 0, none⟩) (Nat.le_succ _) _⟩
  · have hz : sizeOk 7 F n = false := by simp [sizeOk, h]
    have HV := Lib.hid (show 6 = chkF ⟨7, F, S, body⟩ by simp [chkF, hn0, h])
    obtain ⟨hb0, hX, hY⟩ := chk_mem w 7 F S A n c 0
    have HZ := Lib.hid (sizes_is (K := 7) (F := F) (S := S) (body := body) hn0 hm A c (show sizeOk 7 F n = false by first | exact hz | simp [sizeOk]))
    have HB0 := Lib.hid hb0
    have HX := Lib.hid hX
    have HY0 := Lib.hid hY
    clear hb0 hX hY
    try clear h
    try clear hz
    unfold frV
    rw [hn0]
    go_enter Tryd.func37, Tryd.ntmps37
    go_wp2_with fail
    refine (HZ.out _).mono ?_
    rintro e w1 ⟨rfl, hb1⟩
    have x1 := HX.out.below hb1 HX.out.lt
    have y1 := HY0.out.below hb1 HY0.out.lt
    have x0 := x1.cell 0
    have x3 := x1.cell 3
    have y0 := y1.cell 0
    have yf := y1.frozen 0
    have yl := y1.lt
    have HB := Lib.hid (HB0.out.trans (hb1.mono HB0.out.size))
    have HY := Lib.hid (y1.set_ 0 (.int .i64 6))
    clear x1 y1 hb1
    go_wp2
    refine bodyPost_ret (results_cell1 rfl _ _ (w.heap.size + 1) (.int .i64 6) rfl (HY.out.cell 0) Tryd.underlying3) rfl ?_
    exact ⟨congrArg (fun z : Nat => Ending.returned (Value.int .i64 (z : Int))) HV.out, HB.out.setCell (p := ⟨w.heap.size + 1, 0, none⟩) (Nat.le_succ _) _⟩
end Go.Proofs.YtkbbkamnmdeagaaDoor
