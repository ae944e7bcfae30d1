/-
  slices.Chunk at []uint8 by pieces of 6: the contract of its iterator: it hands on one piece after the other; which pieces there were where it is stopped. Condition: the bound on the bytes.
-/
import Derived.Test.YtkbbkamnmdeagaaDoorSplit
namespace Go.Proofs.YtkbbkamnmdeagaaDoor
open Go.RowKit Go.Shelf
attribute [local go_sem] Oper.semAt_some

/-- How many pieces there are; the piece j. -/
def pieces6 (len : Nat) : Nat := (len + 5) / 6
def pieceV6 (b off len j : Nat) : Value := .slice (some ⟨b, off + 6 * j, none⟩) (min 6 (len - 6 * j)) (min 6 (len - 6 * j))

set_option maxRecDepth 100000 in
set_option maxHeartbeats 4000000 in
theorem chunk6_in (F : Fence) (n : Nat) (h7 : F.fn 98) (hro : F.round = none) (hn : 1 ≤ n) (l Bs Bn b off len cap : Nat) (hlc : len ≤ cap) (hm : len ≤ 140737488355328) (J Jx : List (Fin (pieces6 len)) → World → Prop)
    (hJd : ∀ pre W, J pre W → J pre W.drew)
    (hY : ∀ pre (x : Fin (pieces6 len)) W, J pre W → pre.length < pieces6 len → YieldAt F (n - 1) Tryd.prog l #[pieceV6 b off len x.1] W fun e W' =>
      (e = .returned (.bool true) ∧ J (pre ++ [x]) W' ∧ KeepC Bs Bn W W') ∨ (e = .returned (.bool false) ∧ Jx (pre ++ [x]) W'))
    (W : World) (hs : W.cell? ⟨Bs, 0, none⟩ = some (.slice (some ⟨b, off, none⟩) len cap)) (hn4 : W.cell? ⟨Bn, 0, none⟩ = some (.int .i64 6)) (h0 : J [] W) :
    CallsIn F n Tryd.prog 98 #[.func (.yield l) #[] #[], .pointer (some ⟨Bs, 0, none⟩), .pointer (some ⟨Bn, 0, none⟩)] W fun e W' => (∃ v, e = .returned v) ∧
      ((∃ ys, ys.map Fin.val = List.range (pieces6 len) ∧ J ys W') ∨ (∃ pre, pre.map Fin.val = List.range pre.length ∧ Jx pre W')) := by
  refine callsIn_of_wp Tryd.func98 rfl h7 ?_ hro
  simp only [Tryd.ntmps98, List.size_toArray, List.length_cons, List.length_nil, Nat.reduceAdd, Nat.reduceSub, Array.replicate_succ, Array.replicate_zero, List.push_toArray, List.append_toArray, List.nil_append, List.cons_append]
  gi_wp2
  gi_loopw [4] (fun i wr => ∃ k : Nat, k ≤ pieces6 len ∧ i = .int .i64 ((6 * k : Nat) : Int) ∧ Hid (∃ pre, pre.map Fin.val = List.range k ∧ J pre wr) ∧ Hid (KeepC Bs Bn W wr))
    (fun i _ => 6 * pieces6 len - (intOf i).toNat)
  case atStart => exact ⟨0, Nat.zero_le _, rfl, ⟨[], rfl, h0⟩, KeepC.refl _ _ _⟩
  case round =>
    obtain ⟨k, hk, rfl, HJ, HX⟩ := hrel
    have s1 := HX.out.1.trans hs
    have s2 := HX.out.2.trans hn4
    obtain ⟨pre, hpre, hJs⟩ := HJ.out
    have HPRE := Lib.hid hpre
    by_cases hlt : 6 * k < len
    · have hkp : k < pieces6 len := by unfold pieces6; omega
      obtain ⟨fn, tmps, assign, body, hy, hR⟩ := hY pre ⟨k, hkp⟩ wr.drew (hJd _ _ hJs) (by have := congrArg List.length hpre; simp at this; omega)
      have HRR := Lib.hid hR
      have i0 : ((6 * k : Nat) : Int) < ((len : Nat) : Int) := by omega
      have i1 : (0 : Int) ≤ ((6 * k : Nat) : Int) := by omega
      have i2 : ((6 * k : Nat) : Int) ≤ ((len : Nat) : Int) := by omega
      have hmx : Tryd.prog.follows .mixedOrders = true := by kernel_rfl
      have HK := Lib.hid hkp
      have HKK := Lib.hid hk
      obtain ⟨I, hI⟩ : ∃ I, 6 * k = I := ⟨_, rfl⟩
      unfold pieceV6 at hy
      simp only at hy
      rw [hI] at i0 i1 i2 hlt hy ⊢
      obtain ⟨M, hM⟩ : ∃ M, min 6 (len - I) = M := ⟨_, rfl⟩
      rw [hM] at hy
      have HY := Lib.hid hy
      have HI := Lib.hid hI
      have HM := Lib.hid hM
      clear hy hI hM hpre hk hR hJs
      gi_wp2
      gi_region
      all_goals gi_wp2
      all_goals
        have hy := HY.out
        have hM := HM.out
        first
          | (have e : ((I : Int) + ((len - I : Nat) : Int)).toNat - I = M := by omega
             rw [e])
          | (have e : ((I : Int) + 6).toNat - I = M := by omega
             rw [e])
        rw [hy]
        gi_wp2
        refine HRR.out.mono ?_
        rintro e W3 (⟨rfl, hJ3, hk3⟩ | ⟨rfl, hJx3⟩)
        · have HW3 := Lib.hid (HX.out.trans (show KeepC Bs Bn wr W3 from hk3))
          have HJ3 := Lib.hid hJ3
          have t2 := HW3.out.2.trans hn4
          clear hJ3 hk3
          gi_wp2
          go_roundw
          case rel => exact ⟨k + 1, HK.out, by rw [← HI.out]; go_num, ⟨_, by rw [List.map_append, HPRE.out, List.range_succ]; rfl, HJ3.out⟩, HW3⟩
          case measure => have := HK.out; have := HI.out; simp [intOf]; omega
        · gi_wp2
          refine bodyPost_ret (results_none rfl _ _ _) rfl ?_
          exact ⟨⟨_, rfl⟩, .inr ⟨_, by rw [List.map_append, HPRE.out, List.length_append, show pre.length = k by have := congrArg List.length HPRE.out; simpa using this, List.length_singleton, List.range_succ]; rfl, hJx3⟩⟩
    · have hke : k = pieces6 len := by unfold pieces6 at hk ⊢; omega
      have HKE := Lib.hid hke
      clear hke
      gi_wp2
      go_end0
      exact ⟨⟨_, rfl⟩, .inl ⟨pre, by rw [HPRE.out, HKE.out], hJs⟩⟩
def pieceW6 (A : Option Addr) (len j : Nat) : Value := .slice (A.map (·.add (6 * j))) (min 6 (len - 6 * j)) (min 6 (len - 6 * j))
set_option maxHeartbeats 1000000 in
theorem chunk6_new (F : Fence) (n : Nat) (h81 : F.fn 81) (hro : F.round = none) (A : Option Addr) (len cap : Nat) (w : World) :
    CallsIn F n Tryd.prog 81 #[.slice A len cap, .int .i64 6] w fun e w' => e = .returned (.func (.func 98) #[] #[.pointer (some ⟨w.heap.size, 0, none⟩), .pointer (some ⟨w.heap.size + 1, 0, none⟩)]) ∧ w' = (w.alloc (.cells #[.slice A len cap] 22)).alloc (.cells #[.int .i64 6] 3) := by
  refine callsIn_of_wp Tryd.func81 rfl h81 ?_ hro
  simp only [Tryd.ntmps81, List.size_toArray, List.length_cons, List.length_nil, Nat.reduceAdd, Nat.reduceSub, Array.replicate_succ, Array.replicate_zero, List.push_toArray, List.append_toArray, List.nil_append, List.cons_append]
  gi_wp2
  go_ret
  exact ⟨rfl, rfl⟩

theorem chunk6_stops (F : Fence) (n : Nat) (h7 : F.fn 98) (hro : F.round = none) (hn : 1 ≤ n) (Bs Bn : Nat) (A : Option Addr) (len cap : Nat) (hlc : len ≤ cap) (hm : len ≤ 140737488355328) (hA : 0 < len → ∃ b off, A = some ⟨b, off, none⟩) (w : World)
    (hBs : Bs < w.heap.size) (hBn : Bn < w.heap.size) (hs : w.cell? ⟨Bs, 0, none⟩ = some (.slice A len cap)) (hn4 : w.cell? ⟨Bn, 0, none⟩ = some (.int .i64 6)) :
    SeqStopsK F n Tryd.prog 98 #[.pointer (some ⟨Bs, 0, none⟩), .pointer (some ⟨Bn, 0, none⟩)] (fun x : Fin (pieces6 len) => #[pieceW6 A len x.1]) (KeepC Bs Bn) (fun ys => ys.map Fin.val = List.range (pieces6 len)) (fun pre => pre.map Fin.val = List.range pre.length) (pieces6 len) w := fun l J Jx W hW hJ hJx hY h0 => by
  have hs' := (hW.cell (p := ⟨Bs, 0, none⟩) hBs).trans hs
  have hn' := (hW.cell (p := ⟨Bn, 0, none⟩) hBn).trans hn4
  rcases Nat.eq_zero_or_pos len with rfl | hpos
  · refine (chunk_nil_in F n h7 hro l Bs Bn A cap (J []) W hs' h0).mono ?_
    rintro e W' ⟨he, hj⟩
    exact ⟨he, .inl ⟨[], by simp [pieces6], hj⟩⟩
  · obtain ⟨b, off, rfl⟩ := hA hpos
    refine chunk6_in F n h7 hro hn l Bs Bn b off len cap hlc hm J Jx ?_ (fun pre x W1 hJ1 hlt => ?_) W hs' hn' h0
    · intro pre W1 h1
      exact hJ pre W1 W1.drew none h1 ⟨rfl, rfl, rfl, Nat.le_refl _, fun _ _ _ => rfl⟩ (fun r e => by cases e)
    · have := hY pre x W1 hJ1 hlt
      have e : pieceW6 (some ⟨b, off, none⟩) len x.1 = pieceV6 b off len x.1 := by simp [pieceW6, pieceV6, Addr.add]
      simp only [e] at this
      exact this

end Go.Proofs.YtkbbkamnmdeagaaDoor
