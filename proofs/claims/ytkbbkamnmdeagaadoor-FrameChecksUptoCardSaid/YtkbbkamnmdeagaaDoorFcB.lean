/-
  The program's Check, every kind but the settings' own: its contract. Condition: the bound on the bytes.
-/
import Derived.Test.YtkbbkamnmdeagaaDoorFcA
namespace Go.Proofs.YtkbbkamnmdeagaaDoor
open Go.RowKit

theorem chk_mem (w : World) (K F S : Int) (A : Option Addr) (n c : Nat) (z : Int) : Below w.heap.size w ((w.alloc (.cells #[.int .i64 K, .int .i64 F, .int .i64 S, .slice A n c] 50)).alloc (.cells #[.int .i64 z] 3)) ∧
    Blk ((w.alloc (.cells #[.int .i64 K, .int .i64 F, .int .i64 S, .slice A n c] 50)).alloc (.cells #[.int .i64 z] 3)) w.heap.size 50 #[.int .i64 K, .int .i64 F, .int .i64 S, .slice A n c] ∧
    Blk ((w.alloc (.cells #[.int .i64 K, .int .i64 F, .int .i64 S, .slice A n c] 50)).alloc (.cells #[.int .i64 z] 3)) (w.heap.size + 1) 3 #[.int .i64 z] := by
  refine ⟨((Below.refl w.heap.size w).alloc (Nat.le_refl _) _).alloc (by simp) _, (Blk.new w _ _).alloc _, ?_⟩
  have := Blk.new (w.alloc (.cells #[.int .i64 K, .int .i64 F, .int .i64 S, .slice A n c] 50)) 3 #[.int .i64 z]
  rwa [World.size_alloc] at this
theorem sizes_is {K F S : Int} {body : List UInt8} {n : Nat} {z : Bool} (hn0 : body.length = n) (hm : n ≤ 140737488355328) (A : Option Addr) (c : Nat) (hz : sizeOk K F n = z) (w : World) :
    Calls Tryd.prog 79 #[.agg #[.int .i64 K, .int .i64 F, .int .i64 S, .slice A n c]] w fun e w' => e = .returned (.bool z) ∧ Below w.heap.size w w' := by
  subst hn0
  subst hz
  exact sizes_any ⟨K, F, S, body⟩ A c hm w
theorem fword_is (body : List UInt8) (h : body.length = 4) (A : Option Addr) (cp B : Nat) (w : World) (hr : Reads w B 1 A 4 (bs body)) :
    Calls Tryd.prog 80 #[.slice A 4 cp] w fun e w' => e = .returned (.int .i64 ((beNat body : Nat) : Int)) ∧ Below w.heap.size w w' := by
  match body, h with
  | [a, b, c, d], _ => exact fword_any a b c d A 4 cp rfl w B hr

set_option maxRecDepth 100000 in
set_option maxHeartbeats 800000 in
theorem fchk0 (F S : Int) (body : List UInt8) (A : Option Addr) (c : Nat) (hm : body.length ≤ 140737488355328) (w : World) (hr : Reads w w.heap.size 1 A body.length (bs body)) :
    Calls Tryd.prog 37 #[frV ⟨0, F, S, body⟩ A c] w fun e w' => e = .returned (.int .i64 ((chkF ⟨0, F, S, body⟩ : Nat) : Int)) ∧ Below w.heap.size w w' := by
  obtain ⟨n, hn0⟩ : ∃ n, body.length = n := ⟨_, rfl⟩
  rw [hn0] at hm
  by_cases hS : S = 0
  · subst hS
    have HV := Lib.hid (show 1 = chkF ⟨0, F, 0, body⟩ by simp [chkF, hn0])
    obtain ⟨hb0, hX, hY⟩ := chk_mem w 0 F 0 A n c 1
    have HY := Lib.hid hY
    have HB := Lib.hid hb0
    clear hb0 hX hY
    unfold frV
    rw [hn0]
    go_enter Tryd.func37, Tryd.ntmps37
    go_wp2
    refine bodyPost_ret (results_cell1 rfl _ _ (w.heap.size + 1) (.int .i64 1) rfl (HY.out.cell 0) Tryd.underlying3) rfl ?_
    exact ⟨congrArg (fun z : Nat => Ending.returned (Value.int .i64 (z : Int))) HV.out, HB.out⟩
  · have s1 : (S == 0) = false := beq_eq_false_iff_ne.2 hS
    have s2 : (S != 0) = true := by rw [bne, s1]; rfl
    have HV := Lib.hid (show 0 = chkF ⟨0, F, S, body⟩ by simp [chkF, hn0, hS])
    obtain ⟨hb0, hX, hY⟩ := chk_mem w 0 F S A n c 0
    have HZ := Lib.hid (sizes_is (K := 0) (F := F) (S := S) (body := body) hn0 hm A c (show sizeOk 0 F n = true by first | exact hz | simp [sizeOk]))
    have HB0 := Lib.hid hb0
    have HX := Lib.hid hX
    have HY0 := Lib.hid hY
    clear hb0 hX hY
    try clear h
    try clear hz
    unfold frV
    rw [hn0]
    go_enter Tryd.func37, Tryd.ntmps37
    go_wp2_with fail
    refine (HZ.out _).mono ?_
    rintro e w1 ⟨rfl, hb1⟩
    have x1 := HX.out.below hb1 HX.out.lt
    have y1 := HY0.out.below hb1 HY0.out.lt
    have x0 := x1.cell 0
    have x3 := x1.cell 3
    have y0 := y1.cell 0
    have yf := y1.frozen 0
    have yl := y1.lt
    have HB := Lib.hid (HB0.out.trans (hb1.mono HB0.out.size))
    have HY := Lib.hid (y1.set_ 0 (.int .i64 0))
    clear x1 y1 hb1
    go_wp2
    refine bodyPost_ret (results_cell1 rfl _ _ (w.heap.size + 1) (.int .i64 0) rfl (HY.out.cell 0) Tryd.underlying3) rfl ?_
    exact ⟨congrArg (fun z : Nat => Ending.returned (Value.int .i64 (z : Int))) HV.out, HB.out.setCell (p := ⟨w.heap.size + 1, 0, none⟩) (Nat.le_succ _) _⟩
set_option maxRecDepth 100000 in
set_option maxHeartbeats 800000 in
theorem fchk1 (F S : Int) (body : List UInt8) (A : Option Addr) (c : Nat) (hm : body.length ≤ 140737488355328) (w : World) (hr : Reads w w.heap.size 1 A body.length (bs body)) :
    Calls Tryd.prog 37 #[frV ⟨1, F, S, body⟩ A c] w fun e w' => e = .returned (.int .i64 ((chkF ⟨1, F, S, body⟩ : Nat) : Int)) ∧ Below w.heap.size w w' := by
  obtain ⟨n, hn0⟩ : ∃ n, body.length = n := ⟨_, rfl⟩
  rw [hn0] at hm
  by_cases hS : S = 0
  · subst hS
    have HV := Lib.hid (show 1 = chkF ⟨1, F, 0, body⟩ by simp [chkF, hn0])
    obtain ⟨hb0, hX, hY⟩ := chk_mem w 1 F 0 A n c 1
    have HY := Lib.hid hY
    have HB := Lib.hid hb0
    clear hb0 hX hY
    unfold frV
    rw [hn0]
    go_enter Tryd.func37, Tryd.ntmps37
    go_wp2
    refine bodyPost_ret (results_cell1 rfl _ _ (w.heap.size + 1) (.int .i64 1) rfl (HY.out.cell 0) Tryd.underlying3) rfl ?_
    exact ⟨congrArg (fun z : Nat => Ending.returned (Value.int .i64 (z : Int))) HV.out, HB.out⟩
  · have s1 : (S == 0) = false := beq_eq_false_iff_ne.2 hS
    have s2 : (S != 0) = true := by rw [bne, s1]; rfl
    have HV := Lib.hid (show 0 = chkF ⟨1, F, S, body⟩ by simp [chkF, hn0, hS])
    obtain ⟨hb0, hX, hY⟩ := chk_mem w 1 F S A n c 0
    have HZ := Lib.hid (sizes_is (K := 1) (F := F) (S := S) (body := body) hn0 hm A c (show sizeOk 1 F n = true by first | exact hz | simp [sizeOk]))
    have HB0 := Lib.hid hb0
    have HX := Lib.hid hX
    have HY0 := Lib.hid hY
    clear hb0 hX hY
    try clear h
    try clear hz
    unfold frV
    rw [hn0]
    go_enter Tryd.func37, Tryd.ntmps37
    go_wp2_with fail
    refine (HZ.out _).mono ?_
    rintro e w1 ⟨rfl, hb1⟩
    have x1 := HX.out.below hb1 HX.out.lt
    have y1 := HY0.out.below hb1 HY0.out.lt
    have x0 := x1.cell 0
    have x3 := x1.cell 3
    have y0 := y1.cell 0
    have yf := y1.frozen 0
    have yl := y1.lt
    have HB := Lib.hid (HB0.out.trans (hb1.mono HB0.out.size))
    have HY := Lib.hid (y1.set_ 0 (.int .i64 0))
    clear x1 y1 hb1
    go_wp2
    refine bodyPost_ret (results_cell1 rfl _ _ (w.heap.size + 1) (.int .i64 0) rfl (HY.out.cell 0) Tryd.underlying3) rfl ?_
    exact ⟨congrArg (fun z : Nat => Ending.returned (Value.int .i64 (z : Int))) HV.out, HB.out.setCell (p := ⟨w.heap.size + 1, 0, none⟩) (Nat.le_succ _) _⟩
set_option maxRecDepth 100000 in
set_option maxHeartbeats 800000 in
theorem fchk2 (F S : Int) (body : List UInt8) (A : Option Addr) (c : Nat) (hm : body.length ≤ 140737488355328) (w : World) (hr : Reads w w.heap.size 1 A body.length (bs body)) :
    Calls Tryd.prog 37 #[frV ⟨2, F, S, body⟩ A c] w fun e w' => e = .returned (.int .i64 ((chkF ⟨2, F, S, body⟩ : Nat) : Int)) ∧ Below w.heap.size w w' := by
  obtain ⟨n, hn0⟩ : ∃ n, body.length = n := ⟨_, rfl⟩
  rw [hn0] at hm
  by_cases hS : S = 0
  · subst hS
    have HV := Lib.hid (show 1 = chkF ⟨2, F, 0, body⟩ by simp [chkF, hn0])
    obtain ⟨hb0, hX, hY⟩ := chk_mem w 2 F 0 A n c 1
    have HY := Lib.hid hY
    have HB := Lib.hid hb0
    clear hb0 hX hY
    unfold frV
    rw [hn0]
    go_enter Tryd.func37, Tryd.ntmps37
    go_wp2
    refine bodyPost_ret (results_cell1 rfl _ _ (w.heap.size + 1) (.int .i64 1) rfl (HY.out.cell 0) Tryd.underlying3) rfl ?_
    exact ⟨congrArg (fun z : Nat => Ending.returned (Value.int .i64 (z : Int))) HV.out, HB.out⟩
  · have s1 : (S == 0) = false := beq_eq_false_iff_ne.2 hS
    have s2 : (S != 0) = true := by rw [bne, s1]; rfl
    have HV := Lib.hid (show 0 = chkF ⟨2, F, S, body⟩ by simp [chkF, hn0, hS])
    obtain ⟨hb0, hX, hY⟩ := chk_mem w 2 F S A n c 0
    have HZ := Lib.hid (sizes_is (K := 2) (F := F) (S := S) (body := body) hn0 hm A c (show sizeOk 2 F n = true by first | exact hz | simp [sizeOk]))
    have HB0 := Lib.hid hb0
    have HX := Lib.hid hX
    have HY0 := Lib.hid hY
    clear hb0 hX hY
    try clear h
    try clear hz
    unfold frV
    rw [hn0]
    go_enter Tryd.func37, Tryd.ntmps37
    go_wp2_with fail
    refine (HZ.out _).mono ?_
    rintro e w1 ⟨rfl, hb1⟩
    have x1 := HX.out.below hb1 HX.out.lt
    have y1 := HY0.out.below hb1 HY0.out.lt
    have x0 := x1.cell 0
    have x3 := x1.cell 3
    have y0 := y1.cell 0
    have yf := y1.frozen 0
    have yl := y1.lt
    have HB := Lib.hid (HB0.out.trans (hb1.mono HB0.out.size))
    have HY := Lib.hid (y1.set_ 0 (.int .i64 0))
    clear x1 y1 hb1
    go_wp2
    refine bodyPost_ret (results_cell1 rfl _ _ (w.heap.size + 1) (.int .i64 0) rfl (HY.out.cell 0) Tryd.underlying3) rfl ?_
    exact ⟨congrArg (fun z : Nat => Ending.returned (Value.int .i64 (z : Int))) HV.out, HB.out.setCell (p := ⟨w.heap.size + 1, 0, none⟩) (Nat.le_succ _) _⟩
set_option maxRecDepth 100000 in
set_option maxHeartbeats 800000 in
theorem fchk3 (F S : Int) (body : List UInt8) (A : Option Addr) (c : Nat) (hm : body.length ≤ 140737488355328) (w : World) (hr : Reads w w.heap.size 1 A body.length (bs body)) :
    Calls Tryd.prog 37 #[frV ⟨3, F, S, body⟩ A c] w fun e w' => e = .returned (.int .i64 ((chkF ⟨3, F, S, body⟩ : Nat) : Int)) ∧ Below w.heap.size w w' := by
  obtain ⟨n, hn0⟩ : ∃ n, body.length = n := ⟨_, rfl⟩
  rw [hn0] at hm
  by_cases hS : S = 0
  · subst hS
    have HV := Lib.hid (show 1 = chkF ⟨3, F, 0, body⟩ by simp [chkF, hn0])
    obtain ⟨hb0, hX, hY⟩ := chk_mem w 3 F 0 A n c 1
    have HY := Lib.hid hY
    have HB := Lib.hid hb0
    clear hb0 hX hY
    unfold frV
    rw [hn0]
    go_enter Tryd.func37, Tryd.ntmps37
    go_wp2
    refine bodyPost_ret (results_cell1 rfl _ _ (w.heap.size + 1) (.int .i64 1) rfl (HY.out.cell 0) Tryd.underlying3) rfl ?_
    exact ⟨congrArg (fun z : Nat => Ending.returned (Value.int .i64 (z : Int))) HV.out, HB.out⟩
  · have s1 : (S == 0) = false := beq_eq_false_iff_ne.2 hS
    have s2 : (S != 0) = true := by rw [bne, s1]; rfl
    by_cases h : n = 4
    · have hz : sizeOk 3 F n = true := by simp [sizeOk, h]
      have HV := Lib.hid (show 0 = chkF ⟨3, F, S, body⟩ by simp [chkF, hn0, hS, h])
      obtain ⟨hb0, hX, hY⟩ := chk_mem w 3 F S A n c 0
      have HZ := Lib.hid (sizes_is (K := 3) (F := F) (S := S) (body := body) hn0 hm A c (show sizeOk 3 F n = true by first | exact hz | simp [sizeOk]))
      have HB0 := Lib.hid hb0
      have HX := Lib.hid hX
      have HY0 := Lib.hid hY
      clear hb0 hX hY
      try clear h
      try clear hz
      unfold frV
      rw [hn0]
      go_enter Tryd.func37, Tryd.ntmps37
      go_wp2_with fail
      refine (HZ.out _).mono ?_
      rintro e w1 ⟨rfl, hb1⟩
      have x1 := HX.out.below hb1 HX.out.lt
      have y1 := HY0.out.below hb1 HY0.out.lt
      have x0 := x1.cell 0
      have x3 := x1.cell 3
      have y0 := y1.cell 0
      have yf := y1.frozen 0
      have yl := y1.lt
      have HB := Lib.hid (HB0.out.trans (hb1.mono HB0.out.size))
      have HY := Lib.hid (y1.set_ 0 (.int .i64 0))
      clear x1 y1 hb1
      go_wp2
      refine bodyPost_ret (results_cell1 rfl _ _ (w.heap.size + 1) (.int .i64 0) rfl (HY.out.cell 0) Tryd.underlying3) rfl ?_
      exact ⟨congrArg (fun z : Nat => Ending.returned (Value.int .i64 (z : Int))) HV.out, HB.out.setCell (p := ⟨w.heap.size + 1, 0, none⟩) (Nat.le_succ _) _⟩
    · have hz : sizeOk 3 F n = false := by simp [sizeOk, h]
      have HV := Lib.hid (show 6 = chkF ⟨3, F, S, body⟩ by simp [chkF, hn0, hS, h])
      obtain ⟨hb0, hX, hY⟩ := chk_mem w 3 F S A n c 0
      have HZ := Lib.hid (sizes_is (K := 3) (F := F) (S := S) (body := body) hn0 hm A c (show sizeOk 3 F n = false by first | exact hz | simp [sizeOk]))
      have HB0 := Lib.hid hb0
      have HX := Lib.hid hX
      have HY0 := Lib.hid hY
      clear hb0 hX hY
      try clear h
      try clear hz
      unfold frV
      rw [hn0]
      go_enter Tryd.func37, Tryd.ntmps37
      go_wp2_with fail
      refine (HZ.out _).mono ?_
      rintro e w1 ⟨rfl, hb1⟩
      have x1 := HX.out.below hb1 HX.out.lt
      have y1 := HY0.out.below hb1 HY0.out.lt
      have x0 := x1.cell 0
      have x3 := x1.cell 3
      have y0 := y1.cell 0
      have yf := y1.frozen 0
      have yl := y1.lt
      have HB := Lib.hid (HB0.out.trans (hb1.mono HB0.out.size))
      have HY := Lib.hid (y1.set_ 0 (.int .i64 6))
      clear x1 y1 hb1
      go_wp2
      refine bodyPost_ret (results_cell1 rfl _ _ (w.heap.size + 1) (.int .i64 6) rfl (HY.out.cell 0) Tryd.underlying3) rfl ?_
      exact ⟨congrArg (fun z : Nat => Ending.returned (Value.int .i64 (z : Int))) HV.out, HB.out.setCell (p := ⟨w.heap.size + 1, 0, none⟩) (Nat.le_succ _) _⟩
set_option maxRecDepth 100000 in
set_option maxHeartbeats 800000 in
theorem fchk5 (F S : Int) (body : List UInt8) (A : Option Addr) (c : Nat) (hm : body.length ≤ 140737488355328) (w : World) (hr : Reads w w.heap.size 1 A body.length (bs body)) :
    Calls Tryd.prog 37 #[frV ⟨5, F, S, body⟩ A c] w fun e w' => e = .returned (.int .i64 ((chkF ⟨5, F, S, body⟩ : Nat) : Int)) ∧ Below w.heap.size w w' := by
  obtain ⟨n, hn0⟩ : ∃ n, body.length = n := ⟨_, rfl⟩
  rw [hn0] at hm
  by_cases hS : S = 0
  · subst hS
    by_cases h : n = 8
    · have hz : sizeOk 5 F n = true := by simp [sizeOk, h]
      have HV := Lib.hid (show 0 = chkF ⟨5, F, 0, body⟩ by simp [chkF, hn0, h])
      obtain ⟨hb0, hX, hY⟩ := chk_mem w 5 F 0 A n c 0
      have HZ := Lib.hid (sizes_is (K := 5) (F := F) (S := 0) (body := body) hn0 hm A c (show sizeOk 5 F n = true by first | exact hz | simp [sizeOk]))
      have HB0 := Lib.hid hb0
      have HX := Lib.hid hX
      have HY0 := Lib.hid hY
      clear hb0 hX hY
      try clear h
      try clear hz
      unfold frV
      rw [hn0]
      go_enter Tryd.func37, Tryd.ntmps37
      go_wp2_with fail
      refine (HZ.out _).mono ?_
      rintro e w1 ⟨rfl, hb1⟩
      have x1 := HX.out.below hb1 HX.out.lt
      have y1 := HY0.out.below hb1 HY0.out.lt
      have x0 := x1.cell 0
      have x3 := x1.cell 3
      have y0 := y1.cell 0
      have yf := y1.frozen 0
      have yl := y1.lt
      have HB := Lib.hid (HB0.out.trans (hb1.mono HB0.out.size))
      have HY := Lib.hid (y1.set_ 0 (.int .i64 0))
      clear x1 y1 hb1
      go_wp2
      refine bodyPost_ret (results_cell1 rfl _ _ (w.heap.size + 1) (.int .i64 0) rfl (HY.out.cell 0) Tryd.underlying3) rfl ?_
      exact ⟨congrArg (fun z : Nat => Ending.returned (Value.int .i64 (z : Int))) HV.out, HB.out.setCell (p := ⟨w.heap.size + 1, 0, none⟩) (Nat.le_succ _) _⟩
    · have hz : sizeOk 5 F n = false := by simp [sizeOk, h]
      have HV := Lib.hid (show 6 = chkF ⟨5, F, 0, body⟩ by simp [chkF, hn0, h])
      obtain ⟨hb0, hX, hY⟩ := chk_mem w 5 F 0 A n c 0
      have HZ := Lib.hid (sizes_is (K := 5) (F := F) (S := 0) (body := body) hn0 hm A c (show sizeOk 5 F n = false by first | exact hz | simp [sizeOk]))
      have HB0 := Lib.hid hb0
      have HX := Lib.hid hX
      have HY0 := Lib.hid hY
      clear hb0 hX hY
      try clear h
      try clear hz
      unfold frV
      rw [hn0]
      go_enter Tryd.func37, Tryd.ntmps37
      go_wp2_with fail
      refine (HZ.out _).mono ?_
      rintro e w1 ⟨rfl, hb1⟩
      have x1 := HX.out.below hb1 HX.out.lt
      have y1 := HY0.out.below hb1 HY0.out.lt
      have x0 := x1.cell 0
      have x3 := x1.cell 3
      have y0 := y1.cell 0
      have yf := y1.frozen 0
      have yl := y1.lt
      have HB := Lib.hid (HB0.out.trans (hb1.mono HB0.out.size))
      have HY := Lib.hid (y1.set_ 0 (.int .i64 6))
      clear x1 y1 hb1
      go_wp2
      refine bodyPost_ret (results_cell1 rfl _ _ (w.heap.size + 1) (.int .i64 6) rfl (HY.out.cell 0) Tryd.underlying3) rfl ?_
      exact ⟨congrArg (fun z : Nat => Ending.returned (Value.int .i64 (z : Int))) HV.out, HB.out.setCell (p := ⟨w.heap.size + 1, 0, none⟩) (Nat.le_succ _) _⟩
  · have s1 : (S == 0) = false := beq_eq_false_iff_ne.2 hS
    have s2 : (S != 0) = true := by rw [bne, s1]; rfl
    have HV := Lib.hid (show 1 = chkF ⟨5, F, S, body⟩ by simp [chkF, hn0, hS])
    obtain ⟨hb0, hX, hY⟩ := chk_mem w 5 F S A n c 1
    have HY := Lib.hid hY
    have HB := Lib.hid hb0
    clear hb0 hX hY
    unfold frV
    rw [hn0]
    go_enter Tryd.func37, Tryd.ntmps37
    go_wp2
    refine bodyPost_ret (results_cell1 rfl _ _ (w.heap.size + 1) (.int .i64 1) rfl (HY.out.cell 0) Tryd.underlying3) rfl ?_
    exact ⟨congrArg (fun z : Nat => Ending.returned (Value.int .i64 (z : Int))) HV.out, HB.out⟩
set_option maxRecDepth 100000 in
set_option maxHeartbeats 800000 in
theorem fchk6 (F S : Int) (body : List UInt8) (A : Option Addr) (c : Nat) (hm : body.length ≤ 140737488355328) (w : World) (hr : Reads w w.heap.size 1 A body.length (bs body)) :
    Calls Tryd.prog 37 #[frV ⟨6, F, S, body⟩ A c] w fun e w' => e = .returned (.int .i64 ((chkF ⟨6, F, S, body⟩ : Nat) : Int)) ∧ Below w.heap.size w w' := by
  obtain ⟨n, hn0⟩ : ∃ n, body.length = n := ⟨_, rfl⟩
  rw [hn0] at hm
  by_cases hS : S = 0
  · subst hS
    by_cases h : n < 8
    · have hz : sizeOk 6 F n = false := by simp [sizeOk]; omega
      have HV := Lib.hid (show 6 = chkF ⟨6, F, 0, body⟩ by simp [chkF, hn0, h])
      obtain ⟨hb0, hX, hY⟩ := chk_mem w 6 F 0 A n c 0
      have HZ := Lib.hid (sizes_is (K := 6) (F := F) (S := 0) (body := body) hn0 hm A c (show sizeOk 6 F n = false by first | exact hz | simp [sizeOk]))
      have HB0 := Lib.hid hb0
      have HX := Lib.hid hX
      have HY0 := Lib.hid hY
      clear hb0 hX hY
      try clear h
      try clear hz
      unfold frV
      rw [hn0]
      go_enter Tryd.func37, Tryd.ntmps37
      go_wp2_with fail
      refine (HZ.out _).mono ?_
      rintro e w1 ⟨rfl, hb1⟩
      have x1 := HX.out.below hb1 HX.out.lt
      have y1 := HY0.out.below hb1 HY0.out.lt
      have x0 := x1.cell 0
      have x3 := x1.cell 3
      have y0 := y1.cell 0
      have yf := y1.frozen 0
      have yl := y1.lt
      have HB := Lib.hid (HB0.out.trans (hb1.mono HB0.out.size))
      have HY := Lib.hid (y1.set_ 0 (.int .i64 6))
      clear x1 y1 hb1
      go_wp2
      refine bodyPost_ret (results_cell1 rfl _ _ (w.heap.size + 1) (.int .i64 6) rfl (HY.out.cell 0) Tryd.underlying3) rfl ?_
      exact ⟨congrArg (fun z : Nat => Ending.returned (Value.int .i64 (z : Int))) HV.out, HB.out.setCell (p := ⟨w.heap.size + 1, 0, none⟩) (Nat.le_succ _) _⟩
    · have i3 : 8 ≤ n := by omega
      have hz : sizeOk 6 F n = true := by simp [sizeOk]; omega
      have HV := Lib.hid (show 0 = chkF ⟨6, F, 0, body⟩ by simp [chkF, hn0, i3])
      obtain ⟨hb0, hX, hY⟩ := chk_mem w 6 F 0 A n c 0
      have HZ := Lib.hid (sizes_is (K := 6) (F := F) (S := 0) (body := body) hn0 hm A c (show sizeOk 6 F n = true by first | exact hz | simp [sizeOk]))
      have HB0 := Lib.hid hb0
      have HX := Lib.hid hX
      have HY0 := Lib.hid hY
      clear hb0 hX hY
      try clear h
      try clear hz
      unfold frV
      rw [hn0]
      go_enter Tryd.func37, Tryd.ntmps37
      go_wp2_with fail
      refine (HZ.out _).mono ?_
      rintro e w1 ⟨rfl, hb1⟩
      have x1 := HX.out.below hb1 HX.out.lt
      have y1 := HY0.out.below hb1 HY0.out.lt
      have x0 := x1.cell 0
      have x3 := x1.cell 3
      have y0 := y1.cell 0
      have yf := y1.frozen 0
      have yl := y1.lt
      have HB := Lib.hid (HB0.out.trans (hb1.mono HB0.out.size))
      have HY := Lib.hid (y1.set_ 0 (.int .i64 0))
      clear x1 y1 hb1
      go_wp2
      refine bodyPost_ret (results_cell1 rfl _ _ (w.heap.size + 1) (.int .i64 0) rfl (HY.out.cell 0) Tryd.underlying3) rfl ?_
      exact ⟨congrArg (fun z : Nat => Ending.returned (Value.int .i64 (z : Int))) HV.out, HB.out.setCell (p := ⟨w.heap.size + 1, 0, none⟩) (Nat.le_succ _) _⟩
  · have s1 : (S == 0) = false := beq_eq_false_iff_ne.2 hS
    have s2 : (S != 0) = true := by rw [bne, s1]; rfl
    have HV := Lib.hid (show 1 = chkF ⟨6, F, S, body⟩ by simp [chkF, hn0, hS])
    obtain ⟨hb0, hX, hY⟩ := chk_mem w 6 F S A n c 1
    have HY := Lib.hid hY
    have HB := Lib.hid hb0
    clear hb0 hX hY
    unfold frV
    rw [hn0]
    go_enter Tryd.func37, Tryd.ntmps37
    go_wp2
    refine bodyPost_ret (results_cell1 rfl _ _ (w.heap.size + 1) (.int .i64 1) rfl (HY.out.cell 0) Tryd.underlying3) rfl ?_
    exact ⟨congrArg (fun z : Nat => Ending.returned (Value.int .i64 (z : Int))) HV.out, HB.out⟩
set_option maxRecDepth 100000 in
set_option maxHeartbeats 800000 in
theorem fchko (F S : Int) (body : List UInt8) (A : Option Addr) (c : Nat) (hm : body.length ≤ 140737488355328) (w : World) (hr : Reads w w.heap.size 1 A body.length (bs body)) (K : Int) (hK : K < 0 ∨ 7 < K) :
    Calls Tryd.prog 37 #[frV ⟨K, F, S, body⟩ A c] w fun e w' => e = .returned (.int .i64 ((chkF ⟨K, F, S, body⟩ : Nat) : Int)) ∧ Below w.heap.size w w' := by
  obtain ⟨n, hn0⟩ : ∃ n, body.length = n := ⟨_, rfl⟩
  rw [hn0] at hm
  have b0 : (K == 0) = false := beq_eq_false_iff_ne.2 (by omega)
  have b1 : (K == 1) = false := beq_eq_false_iff_ne.2 (by omega)
  have b2 : (K == 2) = false := beq_eq_false_iff_ne.2 (by omega)
  have b3 : (K == 3) = false := beq_eq_false_iff_ne.2 (by omega)
  have b4 : (K == 4) = false := beq_eq_false_iff_ne.2 (by omega)
  have b5 : (K == 5) = false := beq_eq_false_iff_ne.2 (by omega)
  have b6 : (K == 6) = false := beq_eq_false_iff_ne.2 (by omega)
  have b7 : (K == 7) = false := beq_eq_false_iff_ne.2 (by omega)
  have c4 : (K != 4) = true := by rw [bne, b4]; rfl
  have n3 : ¬ K = 3 := by omega
  have n4 : ¬ K = 4 := by omega
  have n5 : ¬ K = 5 := by omega
  have n6 : ¬ K = 6 := by omega
  have n7 : ¬ K = 7 := by omega
  have hz : sizeOk K F n = true := by simp [sizeOk, n3, n4, n5, n6, n7]
  have HV := Lib.hid (show 0 = chkF ⟨K, F, S, body⟩ by simp [chkF, n3, n4, n5, n6, n7]; omega)
  clear hK
  obtain ⟨hb0, hX, hY⟩ := chk_mem w K F S A n c 0
  have HZ := Lib.hid (sizes_is (K := K) (F := F) (S := S) (body := body) hn0 hm A c (show sizeOk K F n = true by first | exact hz | simp [sizeOk]))
  have HB0 := Lib.hid hb0
  have HX := Lib.hid hX
  have HY0 := Lib.hid hY
  clear hb0 hX hY
  try clear h
  try clear hz
  unfold frV
  rw [hn0]
  go_enter Tryd.func37, Tryd.ntmps37
  go_wp2_with fail
  refine (HZ.out _).mono ?_
  rintro e w1 ⟨rfl, hb1⟩
  have x1 := HX.out.below hb1 HX.out.lt
  have y1 := HY0.out.below hb1 HY0.out.lt
  have x0 := x1.cell 0
  have x3 := x1.cell 3
  have y0 := y1.cell 0
  have yf := y1.frozen 0
  have yl := y1.lt
  have HB := Lib.hid (HB0.out.trans (hb1.mono HB0.out.size))
  have HY := Lib.hid (y1.set_ 0 (.int .i64 0))
  clear x1 y1 hb1
  go_wp2
  refine bodyPost_ret (results_cell1 rfl _ _ (w.heap.size + 1) (.int .i64 0) rfl (HY.out.cell 0) Tryd.underlying3) rfl ?_
  exact ⟨congrArg (fun z : Nat => Ending.returned (Value.int .i64 (z : Int))) HV.out, HB.out.setCell (p := ⟨w.heap.size + 1, 0, none⟩) (Nat.le_succ _) _⟩
end Go.Proofs.YtkbbkamnmdeagaaDoor
