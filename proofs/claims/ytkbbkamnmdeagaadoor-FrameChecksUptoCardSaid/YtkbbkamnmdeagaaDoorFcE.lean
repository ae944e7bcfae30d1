/-
  The program's Check: its contract. Condition: the bound on the bytes.
-/
import Derived.Test.YtkbbkamnmdeagaaDoorFcD
namespace Go.Proofs.YtkbbkamnmdeagaaDoor
open Go.RowKit

set_option maxRecDepth 100000 in
set_option maxHeartbeats 1200000 in
theorem fchk4 (F S : Int) (body : List UInt8) (A : Option Addr) (c : Nat) (hm : body.length ≤ 140737488355328) (w : World) (hr : Reads w w.heap.size 1 A body.length (bs body)) (hcap : body.length ≤ c) :
    Calls Tryd.prog 37 #[frV ⟨4, F, S, body⟩ A c] w fun e w' => e = .returned (.int .i64 ((chkF ⟨4, F, S, body⟩ : Nat) : Int)) ∧ Below w.heap.size w w' := by
  obtain ⟨n, hn0⟩ : ∃ n, body.length = n := ⟨_, rfl⟩
  rw [hn0] at hm
  by_cases hS : S = 0
  · subst hS
    by_cases h6 : n % 6 = 0
    · by_cases hF : 0 < n ∧ oddF F = true
      · have HV := Lib.hid (show 6 = chkF ⟨4, F, 0, body⟩ by simp [chkF, hn0, hF.1, hF.2])
        have hz : sizeOk 4 F n = false := by
          have h0 : ¬ n = 0 := by omega
          simp [sizeOk, h0, hF.2]
        clear hF h6
        obtain ⟨hb0, hX, hY⟩ := chk_mem w 4 F 0 A n c 0
        have HZ := Lib.hid (sizes_is (K := 4) (F := F) (S := 0) (body := body) hn0 hm A c (show sizeOk 4 F n = false by first | exact hz | simp [sizeOk]))
        have HB0 := Lib.hid hb0
        have HX := Lib.hid hX
        have HY0 := Lib.hid hY
        clear hb0 hX hY
        try clear h
        try clear hz
        unfold frV
        rw [hn0]
        go_enter Tryd.func37, Tryd.ntmps37
        go_wp2_with fail
        refine (HZ.out _).mono ?_
        rintro e w1 ⟨rfl, hb1⟩
        have x1 := HX.out.below hb1 HX.out.lt
        have y1 := HY0.out.below hb1 HY0.out.lt
        have x0 := x1.cell 0
        have x3 := x1.cell 3
        have y0 := y1.cell 0
        have yf := y1.frozen 0
        have yl := y1.lt
        have HB := Lib.hid (HB0.out.trans (hb1.mono HB0.out.size))
        have HY := Lib.hid (y1.set_ 0 (.int .i64 6))
        clear x1 y1 hb1
        go_wp2
        refine bodyPost_ret (results_cell1 rfl _ _ (w.heap.size + 1) (.int .i64 6) rfl (HY.out.cell 0) Tryd.underlying3) rfl ?_
        exact ⟨congrArg (fun z : Nat => Ending.returned (Value.int .i64 (z : Int))) HV.out, HB.out.setCell (p := ⟨w.heap.size + 1, 0, none⟩) (Nat.le_succ _) _⟩
      · exact fchk4_loop F body A c hcap (by omega) w hr (by omega) (fun h0 => by
          cases hO : oddF F with
          | true => exact absurd ⟨by omega, hO⟩ hF
          | false => rfl)
    · have HV := Lib.hid (show 6 = chkF ⟨4, F, 0, body⟩ by simp [chkF, hn0, h6])
      have hz : sizeOk 4 F n = false := by simp [sizeOk, h6]
      clear h6
      obtain ⟨hb0, hX, hY⟩ := chk_mem w 4 F 0 A n c 0
      have HZ := Lib.hid (sizes_is (K := 4) (F := F) (S := 0) (body := body) hn0 hm A c (show sizeOk 4 F n = false by first | exact hz | simp [sizeOk]))
      have HB0 := Lib.hid hb0
      have HX := Lib.hid hX
      have HY0 := Lib.hid hY
      clear hb0 hX hY
      try clear h
      try clear hz
      unfold frV
      rw [hn0]
      go_enter Tryd.func37, Tryd.ntmps37
      go_wp2_with fail
      refine (HZ.out _).mono ?_
      rintro e w1 ⟨rfl, hb1⟩
      have x1 := HX.out.below hb1 HX.out.lt
      have y1 := HY0.out.below hb1 HY0.out.lt
      have x0 := x1.cell 0
      have x3 := x1.cell 3
      have y0 := y1.cell 0
      have yf := y1.frozen 0
      have yl := y1.lt
      have HB := Lib.hid (HB0.out.trans (hb1.mono HB0.out.size))
      have HY := Lib.hid (y1.set_ 0 (.int .i64 6))
      clear x1 y1 hb1
      go_wp2
      refine bodyPost_ret (results_cell1 rfl _ _ (w.heap.size + 1) (.int .i64 6) rfl (HY.out.cell 0) Tryd.underlying3) rfl ?_
      exact ⟨congrArg (fun z : Nat => Ending.returned (Value.int .i64 (z : Int))) HV.out, HB.out.setCell (p := ⟨w.heap.size + 1, 0, none⟩) (Nat.le_succ _) _⟩
  · have s1 : (S == 0) = false := beq_eq_false_iff_ne.2 hS
    have s2 : (S != 0) = true := by rw [bne, s1]; rfl
    have HV := Lib.hid (show 1 = chkF ⟨4, F, S, body⟩ by simp [chkF, hn0, hS])
    obtain ⟨hb0, hX, hY⟩ := chk_mem w 4 F S A n c 1
    have HY := Lib.hid hY
    have HB := Lib.hid hb0
    clear hb0 hX hY
    unfold frV
    rw [hn0]
    go_enter Tryd.func37, Tryd.ntmps37
    go_wp2
    refine bodyPost_ret (results_cell1 rfl _ _ (w.heap.size + 1) (.int .i64 1) rfl (HY.out.cell 0) Tryd.underlying3) rfl ?_
    exact ⟨congrArg (fun z : Nat => Ending.returned (Value.int .i64 (z : Int))) HV.out, HB.out⟩
/-- The program's Check. -/
theorem fcheck_any (f : Frm) (A : Option Addr) (c : Nat) (hcap : f.body.length ≤ c) (hm : f.body.length ≤ 140737488355328) (w : World) (hr : Reads w w.heap.size 1 A f.body.length (bs f.body)) :
    Calls Tryd.prog 37 #[frV f A c] w fun e w' => e = .returned (.int .i64 ((chkF f : Nat) : Int)) ∧ Below w.heap.size w w' := by
  obtain ⟨K, F, S, body⟩ := f
  simp only at hcap hm hr
  rcases (by omega : K = 0 ∨ K = 1 ∨ K = 2 ∨ K = 3 ∨ K = 4 ∨ K = 5 ∨ K = 6 ∨ K = 7 ∨ (K < 0 ∨ 7 < K)) with rfl | rfl | rfl | rfl | rfl | rfl | rfl | rfl | hK
  · exact fchk0 F S body A c hm w hr
  · exact fchk1 F S body A c hm w hr
  · exact fchk2 F S body A c hm w hr
  · exact fchk3 F S body A c hm w hr
  · exact fchk4 F S body A c hm w hr hcap
  · exact fchk5 F S body A c hm w hr
  · exact fchk6 F S body A c hm w hr
  · exact fchk7 F S body A c hm w hr
  · exact fchko F S body A c hm w hr K hK
end Go.Proofs.YtkbbkamnmdeagaaDoor
