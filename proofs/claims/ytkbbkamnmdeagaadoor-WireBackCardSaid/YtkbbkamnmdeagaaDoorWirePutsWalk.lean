/-
  The walk of the law WirePuts: it returns true, and nothing that was in memory turns. Condition: errors.errorType holds the handle of the type 'error'.
-/
import Derived.Test.YtkbbkamnmdeagaaDoorPut
import Derived.Test.YtkbbkamnmdeagaaDoorGet3
namespace Go.Proofs.YtkbbkamnmdeagaaDoor
open Go.RowKit

theorem wput_gave (n bits first : Int) (w : World) :
    Calls Tryd.prog 19 #[.int .i64 n, .int .i64 bits, .int .i64 first] w fun e w' => ∃ A c, e = .returned (.tuple #[.slice A (putL n bits first).length c, errV (putE n bits first)]) ∧ Gave w w' (putL n bits first) A c := by
  refine (wput_any n bits first w).mono ?_
  rintro e w' ⟨v, he, hown, hb⟩
  obtain ⟨A, c, rfl, hg⟩ := gave_of_own hown hb
  exact ⟨A, c, he, hg⟩
theorem rput_gave (n bits first : Int) (w : World) :
    Calls Tryd.prog 18 #[.int .i64 n, .int .i64 bits, .int .i64 first] w fun e w' => ∃ A c, e = .returned (.tuple #[.slice A (putL n bits first).length c, .int .i64 (putE n bits first : Nat)]) ∧ Gave w w' (putL n bits first) A c := by
  refine (rput_any n bits first w).mono ?_
  rintro e w' ⟨v, he, hown, hb⟩
  obtain ⟨A, c, rfl, hg⟩ := gave_of_own hown hb
  exact ⟨A, c, he, hg⟩

set_option maxHeartbeats 1000000 in
theorem wirePuts_walk (n s f : Int) (l : List UInt8) (A : Option Addr) (c : Nat) (w : World) (hE : ErrType w) (hcap : l.length ≤ c) (hm : l.length ≤ 140737488355328) (hr : Reads w w.heap.size 1 A l.length (bs l)) :
    Calls Tryd.prog 4 #[.int .i64 n, .int .i64 s, .int .i64 f, .slice A l.length c] w fun e w' => e = .returned (.bool true) ∧ Below w.heap.size w w' := by
  go_enter Tryd.func4, Tryd.ntmps4
  go_wp2_with fail
  refine (rput_gave n s f w).mono ?_
  rintro e w1 ⟨A1, c1, rfl, hc1, hr1, hb1⟩
  have hE1 := hE.next hb1
  go_wp2_with fail
  refine (wput_gave n s f w1).mono ?_
  rintro e w2 ⟨A2, c2, rfl, hc2, hr2, hb2⟩
  have hE2 := hE1.next hb2
  go_wp2_with fail
  refine (same_true _ w2 hE2).mono ?_
  rintro e w3 ⟨rfl, hb3⟩
  have hE3 := hE2.next hb3
  have hb13 := hb1.trans ((hb2.mono hb1.size).trans (hb3.mono (Nat.le_trans hb1.size hb2.size)))
  have hr3 : Reads w3 w3.heap.size 1 A l.length (bs l) := (hr.below hb13).more hb13.size
  go_wp2_with fail
  refine (rget_any l s A _ c rfl hm _ w3 hr3).mono ?_
  rintro e w' ⟨rfl, rfl⟩
  go_wp2_with fail
  refine (wget_any l s A _ c rfl hcap hm _ w3 hr3).mono ?_
  rintro e w' ⟨rfl, rfl⟩
  go_wp2_with fail
  refine (same_true _ w3 hE3).mono ?_
  rintro e w4 ⟨rfl, hb4⟩
  have k1 := run_str (hr1.below ((hb2.trans (hb3.mono hb2.size)).trans (hb4.mono (Nat.le_trans hb2.size hb3.size)))) c1
  have k2 := run_str (hr2.below (hb3.trans (hb4.mono hb3.size))) c2
  go_wp2
  go_ret
  exact ⟨rfl, hb13.trans (hb4.mono hb13.size)⟩
end Go.Proofs.YtkbbkamnmdeagaaDoor
