/-
  The reference's Check, every kind but the settings': its contract. Condition: the bound on the bytes.
-/
import Derived.Test.YtkbbkamnmdeagaaDoorFcA
import Derived.Test.YtkbbkamnmdeagaaDoorBig2
namespace Go.Proofs.YtkbbkamnmdeagaaDoor
open Go.RowKit

set_option maxRecDepth 100000 in
set_option maxHeartbeats 4000000 in
theorem rchk0 (F S : Int) (body : List UInt8) (A : Option Addr) (c : Nat) (hm : body.length ≤ 140737488355328) (w : World) (hr : Reads w w.heap.size 1 A body.length (bs body)) :
    Calls Tryd.prog 38 #[frV ⟨0, F, S, body⟩ A c] w fun e w' => e = .returned (.int .i64 ((chkF ⟨0, F, S, body⟩ : Nat) : Int)) ∧ Below w.heap.size w w' := by
  obtain ⟨n, hn0⟩ : ∃ n, body.length = n := ⟨_, rfl⟩
  rw [hn0] at hm
  by_cases hS : S = 0
  · subst hS
    have HV := Lib.hid (show 1 = chkF ⟨0, F, 0, body⟩ by simp [chkF, hn0])
    unfold frV
    rw [hn0]
    go_enter Tryd.func38, Tryd.ntmps38
    go_wp2
    go_ret
    exact ⟨congrArg (fun z : Nat => Ending.returned (Value.int .i64 (z : Int))) HV.out, (Below.refl _ _).alloc (Nat.le_refl _) _⟩
  · have s1 : (S == 0) = false := beq_eq_false_iff_ne.2 hS
    have s2 : (S != 0) = true := by rw [bne, s1]; rfl
    have HV := Lib.hid (show 0 = chkF ⟨0, F, S, body⟩ by simp [chkF, hn0, hS])
    unfold frV
    rw [hn0]
    go_enter Tryd.func38, Tryd.ntmps38
    go_wp2
    go_loopw [6] (fun i wr => i = .int .i64 0 ∧ Hid (Below w.heap.size w wr)) (fun _ _ => 0)
    case atStart => exact ⟨rfl, (Below.refl _ _).alloc (Nat.le_refl _) _⟩
    case round =>
      obtain ⟨rfl, HBB⟩ := hrel
      go_wp2
      go_ret
      exact ⟨congrArg (fun z : Nat => Ending.returned (Value.int .i64 (z : Int))) HV.out, HBB.out⟩
set_option maxRecDepth 100000 in
set_option maxHeartbeats 4000000 in
theorem rchk1 (F S : Int) (body : List UInt8) (A : Option Addr) (c : Nat) (hm : body.length ≤ 140737488355328) (w : World) (hr : Reads w w.heap.size 1 A body.length (bs body)) :
    Calls Tryd.prog 38 #[frV ⟨1, F, S, body⟩ A c] w fun e w' => e = .returned (.int .i64 ((chkF ⟨1, F, S, body⟩ : Nat) : Int)) ∧ Below w.heap.size w w' := by
  obtain ⟨n, hn0⟩ : ∃ n, body.length = n := ⟨_, rfl⟩
  rw [hn0] at hm
  by_cases hS : S = 0
  · subst hS
    have HV := Lib.hid (show 1 = chkF ⟨1, F, 0, body⟩ by simp [chkF, hn0])
    unfold frV
    rw [hn0]
    go_enter Tryd.func38, Tryd.ntmps38
    go_wp2
    go_ret
    exact ⟨congrArg (fun z : Nat => Ending.returned (Value.int .i64 (z : Int))) HV.out, (Below.refl _ _).alloc (Nat.le_refl _) _⟩
  · have s1 : (S == 0) = false := beq_eq_false_iff_ne.2 hS
    have s2 : (S != 0) = true := by rw [bne, s1]; rfl
    have HV := Lib.hid (show 0 = chkF ⟨1, F, S, body⟩ by simp [chkF, hn0, hS])
    unfold frV
    rw [hn0]
    go_enter Tryd.func38, Tryd.ntmps38
    go_wp2
    go_loopw [6] (fun i wr => i = .int .i64 0 ∧ Hid (Below w.heap.size w wr)) (fun _ _ => 0)
    case atStart => exact ⟨rfl, (Below.refl _ _).alloc (Nat.le_refl _) _⟩
    case round =>
      obtain ⟨rfl, HBB⟩ := hrel
      go_wp2
      go_ret
      exact ⟨congrArg (fun z : Nat => Ending.returned (Value.int .i64 (z : Int))) HV.out, HBB.out⟩
set_option maxRecDepth 100000 in
set_option maxHeartbeats 4000000 in
theorem rchk2 (F S : Int) (body : List UInt8) (A : Option Addr) (c : Nat) (hm : body.length ≤ 140737488355328) (w : World) (hr : Reads w w.heap.size 1 A body.length (bs body)) :
    Calls Tryd.prog 38 #[frV ⟨2, F, S, body⟩ A c] w fun e w' => e = .returned (.int .i64 ((chkF ⟨2, F, S, body⟩ : Nat) : Int)) ∧ Below w.heap.size w w' := by
  obtain ⟨n, hn0⟩ : ∃ n, body.length = n := ⟨_, rfl⟩
  rw [hn0] at hm
  by_cases hS : S = 0
  · subst hS
    have HV := Lib.hid (show 1 = chkF ⟨2, F, 0, body⟩ by simp [chkF, hn0])
    unfold frV
    rw [hn0]
    go_enter Tryd.func38, Tryd.ntmps38
    go_wp2
    go_ret
    exact ⟨congrArg (fun z : Nat => Ending.returned (Value.int .i64 (z : Int))) HV.out, (Below.refl _ _).alloc (Nat.le_refl _) _⟩
  · have s1 : (S == 0) = false := beq_eq_false_iff_ne.2 hS
    have s2 : (S != 0) = true := by rw [bne, s1]; rfl
    have HV := Lib.hid (show 0 = chkF ⟨2, F, S, body⟩ by simp [chkF, hn0, hS])
    unfold frV
    rw [hn0]
    go_enter Tryd.func38, Tryd.ntmps38
    go_wp2
    go_loopw [6] (fun i wr => i = .int .i64 0 ∧ Hid (Below w.heap.size w wr)) (fun _ _ => 0)
    case atStart => exact ⟨rfl, (Below.refl _ _).alloc (Nat.le_refl _) _⟩
    case round =>
      obtain ⟨rfl, HBB⟩ := hrel
      go_wp2
      go_ret
      exact ⟨congrArg (fun z : Nat => Ending.returned (Value.int .i64 (z : Int))) HV.out, HBB.out⟩
set_option maxRecDepth 100000 in
set_option maxHeartbeats 4000000 in
theorem rchk3 (F S : Int) (body : List UInt8) (A : Option Addr) (c : Nat) (hm : body.length ≤ 140737488355328) (w : World) (hr : Reads w w.heap.size 1 A body.length (bs body)) :
    Calls Tryd.prog 38 #[frV ⟨3, F, S, body⟩ A c] w fun e w' => e = .returned (.int .i64 ((chkF ⟨3, F, S, body⟩ : Nat) : Int)) ∧ Below w.heap.size w w' := by
  obtain ⟨n, hn0⟩ : ∃ n, body.length = n := ⟨_, rfl⟩
  rw [hn0] at hm
  by_cases hS : S = 0
  · subst hS
    have HV := Lib.hid (show 1 = chkF ⟨3, F, 0, body⟩ by simp [chkF, hn0])
    unfold frV
    rw [hn0]
    go_enter Tryd.func38, Tryd.ntmps38
    go_wp2
    go_ret
    exact ⟨congrArg (fun z : Nat => Ending.returned (Value.int .i64 (z : Int))) HV.out, (Below.refl _ _).alloc (Nat.le_refl _) _⟩
  · have s1 : (S == 0) = false := beq_eq_false_iff_ne.2 hS
    have s2 : (S != 0) = true := by rw [bne, s1]; rfl
    by_cases h : n = 4
    · have i1 : (((n : Nat) : Int) == 4) = true := (eqb n 4).trans (decide_eq_true h)
      have i2 : (((n : Nat) : Int) != 4) = false := by rw [bne, i1]; rfl
      have HV := Lib.hid (show 0 = chkF ⟨3, F, S, body⟩ by simp [chkF, hn0, hS, h])
      subst h
      unfold frV
      rw [hn0]
      go_enter Tryd.func38, Tryd.ntmps38
      go_wp2
      go_loopw [6] (fun i wr => i = .int .i64 0 ∧ Hid (Below w.heap.size w wr)) (fun _ _ => 0)
      case atStart => exact ⟨rfl, (Below.refl _ _).alloc (Nat.le_refl _) _⟩
      case round =>
        obtain ⟨rfl, HBB⟩ := hrel
        go_wp2
        go_ret
        exact ⟨congrArg (fun z : Nat => Ending.returned (Value.int .i64 (z : Int))) HV.out, HBB.out⟩
    · have i1 : (((n : Nat) : Int) == 4) = false := (eqb n 4).trans (decide_eq_false h)
      have i2 : (((n : Nat) : Int) != 4) = true := by rw [bne, i1]; rfl
      have i3 : ¬ ((n : Nat) : Int) = 4 := by omega
      have HV := Lib.hid (show 6 = chkF ⟨3, F, S, body⟩ by simp [chkF, hn0, hS, h])
      unfold frV
      rw [hn0]
      go_enter Tryd.func38, Tryd.ntmps38
      go_wp2
      go_ret
      exact ⟨congrArg (fun z : Nat => Ending.returned (Value.int .i64 (z : Int))) HV.out, (Below.refl _ _).alloc (Nat.le_refl _) _⟩
set_option maxRecDepth 100000 in
set_option maxHeartbeats 4000000 in
theorem rchk5 (F S : Int) (body : List UInt8) (A : Option Addr) (c : Nat) (hm : body.length ≤ 140737488355328) (w : World) (hr : Reads w w.heap.size 1 A body.length (bs body)) :
    Calls Tryd.prog 38 #[frV ⟨5, F, S, body⟩ A c] w fun e w' => e = .returned (.int .i64 ((chkF ⟨5, F, S, body⟩ : Nat) : Int)) ∧ Below w.heap.size w w' := by
  obtain ⟨n, hn0⟩ : ∃ n, body.length = n := ⟨_, rfl⟩
  rw [hn0] at hm
  by_cases hS : S = 0
  · subst hS
    by_cases h : n = 8
    · have HV := Lib.hid (show 0 = chkF ⟨5, F, 0, body⟩ by simp [chkF, hn0, h])
      subst h
      unfold frV
      rw [hn0]
      go_enter Tryd.func38, Tryd.ntmps38
      go_wp2
      go_loopw [6] (fun i wr => i = .int .i64 0 ∧ Hid (Below w.heap.size w wr)) (fun _ _ => 0)
      case atStart => exact ⟨rfl, (Below.refl _ _).alloc (Nat.le_refl _) _⟩
      case round =>
        obtain ⟨rfl, HBB⟩ := hrel
        go_wp2
        go_ret
        exact ⟨congrArg (fun z : Nat => Ending.returned (Value.int .i64 (z : Int))) HV.out, HBB.out⟩
    · have i1 : (((n : Nat) : Int) == 8) = false := (eqb n 8).trans (decide_eq_false h)
      have i2 : (((n : Nat) : Int) != 8) = true := by rw [bne, i1]; rfl
      have i3 : ¬ ((n : Nat) : Int) = 8 := by omega
      have HV := Lib.hid (show 6 = chkF ⟨5, F, 0, body⟩ by simp [chkF, hn0, h])
      unfold frV
      rw [hn0]
      go_enter Tryd.func38, Tryd.ntmps38
      go_wp2
      go_ret
      exact ⟨congrArg (fun z : Nat => Ending.returned (Value.int .i64 (z : Int))) HV.out, (Below.refl _ _).alloc (Nat.le_refl _) _⟩
  · have s1 : (S == 0) = false := beq_eq_false_iff_ne.2 hS
    have s2 : (S != 0) = true := by rw [bne, s1]; rfl
    have HV := Lib.hid (show 1 = chkF ⟨5, F, S, body⟩ by simp [chkF, hn0, hS])
    unfold frV
    rw [hn0]
    go_enter Tryd.func38, Tryd.ntmps38
    go_wp2
    go_ret
    exact ⟨congrArg (fun z : Nat => Ending.returned (Value.int .i64 (z : Int))) HV.out, (Below.refl _ _).alloc (Nat.le_refl _) _⟩
set_option maxRecDepth 100000 in
set_option maxHeartbeats 4000000 in
theorem rchk6 (F S : Int) (body : List UInt8) (A : Option Addr) (c : Nat) (hm : body.length ≤ 140737488355328) (w : World) (hr : Reads w w.heap.size 1 A body.length (bs body)) :
    Calls Tryd.prog 38 #[frV ⟨6, F, S, body⟩ A c] w fun e w' => e = .returned (.int .i64 ((chkF ⟨6, F, S, body⟩ : Nat) : Int)) ∧ Below w.heap.size w w' := by
  obtain ⟨n, hn0⟩ : ∃ n, body.length = n := ⟨_, rfl⟩
  rw [hn0] at hm
  by_cases hS : S = 0
  · subst hS
    by_cases h : n < 8
    · have i1 : ((n : Nat) : Int) < 8 := by omega
      have i2 := decide_eq_true i1
      have HV := Lib.hid (show 6 = chkF ⟨6, F, 0, body⟩ by simp [chkF, hn0, h])
      unfold frV
      rw [hn0]
      go_enter Tryd.func38, Tryd.ntmps38
      go_wp2
      go_ret
      exact ⟨congrArg (fun z : Nat => Ending.returned (Value.int .i64 (z : Int))) HV.out, (Below.refl _ _).alloc (Nat.le_refl _) _⟩
    · have i1 : ¬ ((n : Nat) : Int) < 8 := by omega
      have i2 := decide_eq_false i1
      have i3 : 8 ≤ n := by omega
      have HV := Lib.hid (show 0 = chkF ⟨6, F, 0, body⟩ by simp [chkF, hn0, i3])
      unfold frV
      rw [hn0]
      go_enter Tryd.func38, Tryd.ntmps38
      go_wp2
      go_loopw [6] (fun i wr => i = .int .i64 0 ∧ Hid (Below w.heap.size w wr)) (fun _ _ => 0)
      case atStart => exact ⟨rfl, (Below.refl _ _).alloc (Nat.le_refl _) _⟩
      case round =>
        obtain ⟨rfl, HBB⟩ := hrel
        go_wp2
        go_ret
        exact ⟨congrArg (fun z : Nat => Ending.returned (Value.int .i64 (z : Int))) HV.out, HBB.out⟩
  · have s1 : (S == 0) = false := beq_eq_false_iff_ne.2 hS
    have s2 : (S != 0) = true := by rw [bne, s1]; rfl
    have HV := Lib.hid (show 1 = chkF ⟨6, F, S, body⟩ by simp [chkF, hn0, hS])
    unfold frV
    rw [hn0]
    go_enter Tryd.func38, Tryd.ntmps38
    go_wp2
    go_ret
    exact ⟨congrArg (fun z : Nat => Ending.returned (Value.int .i64 (z : Int))) HV.out, (Below.refl _ _).alloc (Nat.le_refl _) _⟩
set_option maxRecDepth 100000 in
set_option maxHeartbeats 4000000 in
theorem rchk7 (F S : Int) (body : List UInt8) (A : Option Addr) (c : Nat) (hm : body.length ≤ 140737488355328) (w : World) (hr : Reads w w.heap.size 1 A body.length (bs body)) :
    Calls Tryd.prog 38 #[frV ⟨7, F, S, body⟩ A c] w fun e w' => e = .returned (.int .i64 ((chkF ⟨7, F, S, body⟩ : Nat) : Int)) ∧ Below w.heap.size w w' := by
  obtain ⟨n, hn0⟩ : ∃ n, body.length = n := ⟨_, rfl⟩
  rw [hn0] at hm
  by_cases h : n = 4
  · have hx : ∃ x, beNat body = x := ⟨_, rfl⟩
    obtain ⟨x, hx⟩ := hx
    have i1 : (((n : Nat) : Int) == 4) = true := (eqb n 4).trans (decide_eq_true h)
    have i2 : (((n : Nat) : Int) != 4) = false := by rw [bne, i1]; rfl
    have HR := Lib.hid (show Reads w w.heap.size 1 A body.length (bs body) from hr)
    have HN0 := Lib.hid (show 4 = body.length by omega)
    have HX := Lib.hid hx
    subst h
    clear hr
    by_cases x0 : x = 0
    · have HV := Lib.hid (show 1 = chkF ⟨7, F, S, body⟩ by simp [chkF, hn0, hx, x0])
      subst x0
      clear hx
      unfold frV
      rw [hn0]
      go_enter Tryd.func38, Tryd.ntmps38
      go_wp2_with fail
      refine (rword_any body (by omega) A _ c HN0.out _ _ (HR.out.alloc (Nat.le_refl _) _)).mono ?_
      rintro e w' ⟨rfl, rfl⟩
      rw [HX.out]
      go_wp2
      go_ret
      exact ⟨congrArg (fun z : Nat => Ending.returned (Value.int .i64 (z : Int))) HV.out, (Below.refl _ _).alloc (Nat.le_refl _) _⟩
    · by_cases xm : 2147483647 < x
      · have HV := Lib.hid (show 1 = chkF ⟨7, F, S, body⟩ by simp [chkF, hn0, hx, xm])
        have j1 : (((x : Nat) : Int) == 0) = false := (eqb x 0).trans (decide_eq_false x0)
        have j2 : (2147483647 : Int) < ((x : Nat) : Int) := by omega
        have j3 := decide_eq_true j2
        have j4 : ¬ ((x : Nat) : Int) = 0 := by omega
        clear hx
        unfold frV
        rw [hn0]
        go_enter Tryd.func38, Tryd.ntmps38
        go_wp2_with fail
        refine (rword_any body (by omega) A _ c HN0.out _ _ (HR.out.alloc (Nat.le_refl _) _)).mono ?_
        rintro e w' ⟨rfl, rfl⟩
        rw [HX.out]
        go_wp2
        go_ret
        exact ⟨congrArg (fun z : Nat => Ending.returned (Value.int .i64 (z : Int))) HV.out, (Below.refl _ _).alloc (Nat.le_refl _) _⟩
      · have HV := Lib.hid (show 0 = chkF ⟨7, F, S, body⟩ by simp [chkF, hn0, hx, xm, x0])
        have j1 : (((x : Nat) : Int) == 0) = false := (eqb x 0).trans (decide_eq_false x0)
        have j2 : ¬ (2147483647 : Int) < ((x : Nat) : Int) := by omega
        have j3 := decide_eq_false j2
        have j4 : ¬ ((x : Nat) : Int) = 0 := by omega
        clear hx
        unfold frV
        rw [hn0]
        go_enter Tryd.func38, Tryd.ntmps38
        go_wp2_with fail
        refine (rword_any body (by omega) A _ c HN0.out _ _ (HR.out.alloc (Nat.le_refl _) _)).mono ?_
        rintro e w' ⟨rfl, rfl⟩
        rw [HX.out]
        go_wp2
        go_loopw [6] (fun i wr => i = .int .i64 0 ∧ Hid (Below w.heap.size w wr)) (fun _ _ => 0)
        case atStart => exact ⟨rfl, (Below.refl _ _).alloc (Nat.le_refl _) _⟩
        case round =>
          obtain ⟨rfl, HBB⟩ := hrel
          go_wp2
          go_ret
          exact ⟨congrArg (fun z : Nat => Ending.returned (Value.int .i64 (z : Int))) HV.out, HBB.out⟩
  · have i1 : (((n : Nat) : Int) == 4) = false := (eqb n 4).trans (decide_eq_false h)
    have i2 : (((n : Nat) : Int) != 4) = true := by rw [bne, i1]; rfl
    have i3 : ¬ ((n : Nat) : Int) = 4 := by omega
    have HV := Lib.hid (show 6 = chkF ⟨7, F, S, body⟩ by simp [chkF, hn0, h])
    unfold frV
    rw [hn0]
    go_enter Tryd.func38, Tryd.ntmps38
    go_wp2
    go_ret
    exact ⟨congrArg (fun z : Nat => Ending.returned (Value.int .i64 (z : Int))) HV.out, (Below.refl _ _).alloc (Nat.le_refl _) _⟩
set_option maxRecDepth 100000 in
set_option maxHeartbeats 4000000 in
theorem rchko (F S : Int) (body : List UInt8) (A : Option Addr) (c : Nat) (hm : body.length ≤ 140737488355328) (w : World) (hr : Reads w w.heap.size 1 A body.length (bs body)) (K : Int) (hK : K < 0 ∨ 7 < K) :
    Calls Tryd.prog 38 #[frV ⟨K, F, S, body⟩ A c] w fun e w' => e = .returned (.int .i64 ((chkF ⟨K, F, S, body⟩ : Nat) : Int)) ∧ Below w.heap.size w w' := by
  obtain ⟨n, hn0⟩ : ∃ n, body.length = n := ⟨_, rfl⟩
  rw [hn0] at hm
  have b3 : (K == 3) = false := beq_eq_false_iff_ne.2 (by omega)
  have b4 : (K == 4) = false := beq_eq_false_iff_ne.2 (by omega)
  have b5 : (K == 5) = false := beq_eq_false_iff_ne.2 (by omega)
  have b6 : (K == 6) = false := beq_eq_false_iff_ne.2 (by omega)
  have b7 : (K == 7) = false := beq_eq_false_iff_ne.2 (by omega)
  have n3 : ¬ K = 3 := by omega
  have n4 : ¬ K = 4 := by omega
  have n5 : ¬ K = 5 := by omega
  have n6 : ¬ K = 6 := by omega
  have n7 : ¬ K = 7 := by omega
  have HV := Lib.hid (show 0 = chkF ⟨K, F, S, body⟩ by simp [chkF, n3, n4, n5, n6, n7]; omega)
  rcases hK with hK | hK
  · have k1 : ¬ 0 ≤ K := by omega
    have k2 := decide_eq_false k1
    unfold frV
    rw [hn0]
    go_enter Tryd.func38, Tryd.ntmps38
    go_wp2
    go_loopw [6] (fun i wr => i = .int .i64 0 ∧ Hid (Below w.heap.size w wr)) (fun _ _ => 0)
    case atStart => exact ⟨rfl, (Below.refl _ _).alloc (Nat.le_refl _) _⟩
    case round =>
      obtain ⟨rfl, HBB⟩ := hrel
      go_wp2
      go_ret
      exact ⟨congrArg (fun z : Nat => Ending.returned (Value.int .i64 (z : Int))) HV.out, HBB.out⟩
  · have k1 : 0 ≤ K := by omega
    have k2 := decide_eq_true k1
    have k3 : ¬ K ≤ 3 := by omega
    have k4 := decide_eq_false k3
    unfold frV
    rw [hn0]
    go_enter Tryd.func38, Tryd.ntmps38
    go_wp2
    go_loopw [6] (fun i wr => i = .int .i64 0 ∧ Hid (Below w.heap.size w wr)) (fun _ _ => 0)
    case atStart => exact ⟨rfl, (Below.refl _ _).alloc (Nat.le_refl _) _⟩
    case round =>
      obtain ⟨rfl, HBB⟩ := hrel
      go_wp2
      go_ret
      exact ⟨congrArg (fun z : Nat => Ending.returned (Value.int .i64 (z : Int))) HV.out, HBB.out⟩
end Go.Proofs.YtkbbkamnmdeagaaDoor
