/-
  The walk of the law HeadTexts: it returns true, and nothing that was in memory turns. Condition: errors.errorType reads as laid.
-/
import Derived.Test.YtkbbkamnmdeagaaDoorHeadReadRef
namespace Go.Proofs.YtkbbkamnmdeagaaDoor
open Go.RowKit

set_option maxRecDepth 100000 in
set_option maxHeartbeats 4000000 in
theorem headTexts_walk (s l : List UInt8) (A : Option Addr) (c : Nat) (w : World) (hE : ErrType w) (hs : s.length ≤ 140737488355328) (hcap : l.length ≤ c) (hm : l.length ≤ 140737488355328) (hr : Reads w w.heap.size 1 A l.length (bs l)) :
    Calls Tryd.prog 8 #[.string ⟨s.toArray⟩, .slice A l.length c] w fun e w' => e = .returned (.bool true) ∧ Below w.heap.size w w' := by
  obtain ⟨t, U, E, hR⟩ : ∃ t U E, readT l = (t, U, E) := ⟨_, _, _, rfl⟩
  have HR := Lib.hid hR
  clear hR
  go_enter Tryd.func8, Tryd.ntmps8
  go_wp2_with fail
  refine (rtext_gave s w hs).mono ?_
  rintro e w1 ⟨A1, c1, rfl, hc1, hr1, hb1⟩
  go_wp2_with fail
  refine (htext_gave s w1 hs).mono ?_
  rintro e w2 ⟨A2, c2, rfl, hc2, hr2, hb2⟩
  have hb12 := hb1.trans (hb2.mono hb1.size)
  go_wp2_with fail
  refine (same_true _ w2 (hE.next hb12)).mono ?_
  rintro e w3 ⟨rfl, hb3⟩
  have hb13 := hb12.trans (hb3.mono hb12.size)
  go_wp2_with fail
  refine (rreadT_any l A _ c rfl hcap hm w3 ((hr.below hb13).more hb13.size)).mono ?_
  rintro e w4 ⟨rfl, hb4⟩
  rw [HR.out]
  have hb14 := hb13.trans (hb4.mono hb13.size)
  go_wp2_with fail
  refine (hread_any l A _ c rfl hcap hm w4 ((hr.below hb14).more hb14.size)).mono ?_
  rintro e w5 ⟨rfl, hb5⟩
  rw [HR.out]
  have hb15 := hb14.trans (hb5.mono hb14.size)
  go_wp2_with fail
  refine (same_true _ w5 (hE.next hb15)).mono ?_
  rintro e w6 ⟨rfl, hb6⟩
  have hb16 := hb15.trans (hb6.mono hb15.size)
  have hs2 := hb2.size
  have hs3 := hb3.size
  have hs4 := hb4.size
  have hs5 := hb5.size
  have hb26 := (((hb3.trans (hb4.mono hs3)).trans (hb5.mono (Nat.le_trans hs3 hs4))).trans (hb6.mono (Nat.le_trans hs3 (Nat.le_trans hs4 hs5))))
  have hb36 := hb2.trans (hb26.mono hs2)
  have k1 := run_str (hr1.below hb36) c1
  have k2 := run_str (hr2.below hb26) c2
  clear hr1 hr2 hb1 hb2 hb3 hb4 hb5 hb6 hb12 hb13 hb14 hb15 hb26 hb36 hs2 hs3 hs4 hs5
  have HB := Lib.hid hb16
  clear hb16
  go_wp2
  go_ret
  exact ⟨rfl, HB.out⟩
end Go.Proofs.YtkbbkamnmdeagaaDoor
