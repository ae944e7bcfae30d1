/-
  slices.Chunk at []uint8 by pieces of 1024: the contract of its iterator: it hands on one piece after the other. Condition: the bound on the bytes.
-/
import Derived.Test.YtbgnggkgmeagkaaGreatDoorMTopLines03
import Derived.Test.YtbgnggkgmeagkaaGreatDoorMTopLines01
import Derived.RangeFuncNested
import Derived.RangeFuncBound
import Derived.RangeFuncCalls
import Derived.RangeFuncLeaves
import Derived.RangeFuncBox
import Derived.Shelf.Abstract
import Derived.Shelf.RegionOpen
import Derived.OwnWalkIn
import Derived.TacticsInMore
import Derived.LoopNIn
import Derived.LoopIn
import Derived.Maps.AppendAt
set_option linter.unusedSimpArgs false
set_option linter.unusedVariables false
namespace Go.Proofs.YtbgnggkgmeagkaaGreatDoor
open Go.RowKit Go.Shelf
attribute [local go_sem] Oper.semAt_some

/-- How many pieces there are; the piece j. -/
def pieces (len : Nat) : Nat := (len + 1023) / 1024
/-- What a round keeps: the two captured variables. -/
def KeepC (Bs Bn : Nat) (W W' : World) : Prop := W'.cell? ⟨Bs, 0, none⟩ = W.cell? ⟨Bs, 0, none⟩ ∧ W'.cell? ⟨Bn, 0, none⟩ = W.cell? ⟨Bn, 0, none⟩
theorem KeepC.refl (Bs Bn : Nat) (W : World) : KeepC Bs Bn W W := ⟨rfl, rfl⟩
theorem KeepC.trans {Bs Bn : Nat} {A B C : World} (h : KeepC Bs Bn A B) (k : KeepC Bs Bn B C) : KeepC Bs Bn A C := ⟨k.1.trans h.1, k.2.trans h.2⟩
def pieceV (b off len j : Nat) : Value := .slice (some ⟨b, off + 1024 * j, none⟩) (min 1024 (len - 1024 * j)) (min 1024 (len - 1024 * j))

set_option maxRecDepth 100000 in
set_option maxHeartbeats 4000000 in
theorem chunk1_in (F : Fence) (n : Nat) (h7 : F.fn 159) (hro : F.round = none) (hn : 1 ≤ n) (l Bs Bn b off len cap : Nat) (hlc : len ≤ cap) (hm : len ≤ 140737488355328) (J Jx : List (Fin (pieces len)) → World → Prop)
    (hJd : ∀ pre W, J pre W → J pre W.drew)
    (hY : ∀ pre (x : Fin (pieces len)) W, J pre W → pre.length < pieces len → YieldAt F (n - 1) Tryz.prog l #[pieceV b off len x.1] W fun e W' =>
      (e = .returned (.bool true) ∧ J (pre ++ [x]) W' ∧ KeepC Bs Bn W W') ∨ (e = .returned (.bool false) ∧ Jx (pre ++ [x]) W'))
    (W : World) (hs : W.cell? ⟨Bs, 0, none⟩ = some (.slice (some ⟨b, off, none⟩) len cap)) (hn4 : W.cell? ⟨Bn, 0, none⟩ = some (.int .i64 1024)) (h0 : J [] W) :
    CallsIn F n Tryz.prog 159 #[.func (.yield l) #[] #[], .pointer (some ⟨Bs, 0, none⟩), .pointer (some ⟨Bn, 0, none⟩)] W fun e W' => (∃ v, e = .returned v) ∧
      ((∃ ys, ys.map Fin.val = List.range (pieces len) ∧ J ys W') ∨ (∃ pre, True ∧ Jx pre W')) := by
  refine callsIn_of_wp Tryz.func159 rfl h7 ?_ hro
  simp only [Tryz.ntmps159, List.size_toArray, List.length_cons, List.length_nil, Nat.reduceAdd, Nat.reduceSub, Array.replicate_succ, Array.replicate_zero, List.push_toArray, List.append_toArray, List.nil_append, List.cons_append]
  gi_wp2
  gi_loopw [4] (fun i wr => ∃ k : Nat, k ≤ pieces len ∧ i = .int .i64 ((1024 * k : Nat) : Int) ∧ Hid (∃ pre, pre.map Fin.val = List.range k ∧ J pre wr) ∧ Hid (KeepC Bs Bn W wr))
    (fun i _ => 1024 * pieces len - (intOf i).toNat)
  case atStart => exact ⟨0, Nat.zero_le _, rfl, ⟨[], rfl, h0⟩, KeepC.refl _ _ _⟩
  case round =>
    obtain ⟨k, hk, rfl, HJ, HX⟩ := hrel
    have s1 := HX.out.1.trans hs
    have s2 := HX.out.2.trans hn4
    obtain ⟨pre, hpre, hJs⟩ := HJ.out
    have HPRE := Lib.hid hpre
    by_cases hlt : 1024 * k < len
    · have hkp : k < pieces len := by unfold pieces; omega
      obtain ⟨fn, tmps, assign, body, hy, hR⟩ := hY pre ⟨k, hkp⟩ wr.drew (hJd _ _ hJs) (by have := congrArg List.length hpre; simp at this; omega)
      have HRR := Lib.hid hR
      have i0 : ((1024 * k : Nat) : Int) < ((len : Nat) : Int) := by omega
      have i1 : (0 : Int) ≤ ((1024 * k : Nat) : Int) := by omega
      have i2 : ((1024 * k : Nat) : Int) ≤ ((len : Nat) : Int) := by omega
      have hmx : Tryz.prog.follows .mixedOrders = true := by kernel_rfl
      have HK := Lib.hid hkp
      have HKK := Lib.hid hk
      obtain ⟨I, hI⟩ : ∃ I, 1024 * k = I := ⟨_, rfl⟩
      unfold pieceV at hy
      simp only at hy
      rw [hI] at i0 i1 i2 hlt hy ⊢
      obtain ⟨M, hM⟩ : ∃ M, min 1024 (len - I) = M := ⟨_, rfl⟩
      rw [hM] at hy
      have HY := Lib.hid hy
      have HI := Lib.hid hI
      have HM := Lib.hid hM
      clear hy hI hM hpre hk hR hJs
      gi_wp2
      gi_region
      all_goals gi_wp2
      all_goals
        have hy := HY.out
        have hM := HM.out
        first
          | (have e : ((I : Int) + ((len - I : Nat) : Int)).toNat - I = M := by omega
             rw [e])
          | (have e : ((I : Int) + 1024).toNat - I = M := by omega
             rw [e])
        rw [hy]
        gi_wp2
        refine HRR.out.mono ?_
        rintro e W3 (⟨rfl, hJ3, hk3⟩ | ⟨rfl, hJx3⟩)
        · have HW3 := Lib.hid (HX.out.trans (show KeepC Bs Bn wr W3 from hk3))
          have HJ3 := Lib.hid hJ3
          have t2 := HW3.out.2.trans hn4
          clear hJ3 hk3
          gi_wp2
          go_roundw
          case rel => exact ⟨k + 1, HK.out, by rw [← HI.out]; go_num, ⟨_, by rw [List.map_append, HPRE.out, List.range_succ]; rfl, HJ3.out⟩, HW3⟩
          case measure => have := HK.out; have := HI.out; simp [intOf]; omega
        · gi_wp2
          refine bodyPost_ret (results_none rfl _ _ _) rfl ?_
          exact ⟨⟨_, rfl⟩, .inr ⟨_, trivial, hJx3⟩⟩
    · have hke : k = pieces len := by unfold pieces at hk ⊢; omega
      have HKE := Lib.hid hke
      clear hke
      gi_wp2
      go_end0
      exact ⟨⟨_, rfl⟩, .inl ⟨pre, by rw [HPRE.out, HKE.out], hJs⟩⟩
end Go.Proofs.YtbgnggkgmeagkaaGreatDoor
