/-
  A text as bytes: the contract of head.Text. Condition: none (a text over 400 bytes is a fault).
-/
import Derived.Test.YtkbbkamnmdeagaaHeadPlain
import Derived.Test.YtkbbkamnmdeagaaDec
import Derived.Test.YtkbbkamnmdeagaaPutW
namespace Go.Proofs.Ytkbbkamnmdeagaa
open Go.RowKit

theorem encode_gave3 (l : List UInt8) (hl : l.length ≤ 68719476736) (w : World) :
    Calls Try.prog 8 #[.string ⟨l.toArray⟩] w fun e w' => ∃ A c, e = .returned (.slice A (enc l).length c) ∧ Gave w w' (enc l) A c := by
  refine (encode_any l hl w).mono ?_
  rintro e w' ⟨v, he, hown, hb⟩
  obtain ⟨A, c, rfl, hg⟩ := gave_of_own hown hb
  exact ⟨A, c, he, hg⟩
theorem txt_own {w' : World} {v : Value} {B : Nat} {a b : List UInt8} (h : w'.ownsRow B 5 1 v (a.length + b.length) (bs a ++ bs b)) : w'.ownsRow B 5 1 v (a ++ b).length (bs (a ++ b)) := by
  rw [List.length_append, bs_append]
  exact h

set_option maxRecDepth 100000 in
set_option maxHeartbeats 4000000 in
theorem htext_any (l : List UInt8) (w : World) (hlm : l.length ≤ 140737488355328) :
    Calls Try.prog 43 #[.string ⟨l.toArray⟩] w fun e w' => ∃ v, e = .returned (.tuple #[v, errV (txtE l)]) ∧ w'.ownsRow w.heap.size 5 1 v (txtL l).length (bs (txtL l)) ∧ Below w.heap.size w w' := by
  by_cases h4 : 400 < l.length
  · have e1 : txtE l = 4 := by simp [txtE, h4]
    have e2 : txtL l = [] := by simp [txtL, h4]
    rw [e1, e2]
    go_enter Try.func43, Try.ntmps43
    go_wp2
    go_ret2
    exact ⟨_, rfl, World.ownsRow_nil _ _ _ _, Below.refl _ _⟩
  · have e1 : txtE l = 0 := by simp [txtE, h4]
    have e2 : txtL l = putL ((txtC l).length : Nat) 7 (txtF l) ++ txtC l := by simp [txtL, h4]
    have HE := Lib.hid (txt_putE l (by omega))
    have HT := Lib.hid e2
    rw [e1, errV_zero]
    clear e1 e2
    by_cases hle : l.length ≤ (enc l).length
    · have e3 : txtC l = l := by simp [txtC, hle]
      have e4 : txtF l = 0 := by simp [txtF, hle]
      rw [e3, e4] at HE HT
      clear e3 e4
      go_enter Try.func43, Try.ntmps43
      go_wp2_with fail
      refine (encode_gave3 l (by omega) w).mono ?_
      rintro e w1 ⟨A1, c1, rfl, hc1, hr1, hb1⟩
      obtain ⟨c2, w2, hk, hc2, hr2, hb2, hz2⟩ := conv_bytes w1 l
      have hb12 := hb1.trans (hb2.mono hb1.size)
      have HB := Lib.hid hb12
      have hs12 := hb12.size
      clear hr1 hb1 hb2 hb12
      go_wp2_with fail
      refine (wput_any (l.length : Nat) 7 0 w2).mono ?_
      rintro e w3 ⟨v, rfl, hown, hb3⟩
      rw [HE.out, errV_zero]
      have hr3 := hr2.below hb3
      have hs3 := hb3.size
      have hp6 : (putL (l.length : Nat) 7 0).length ≤ 1000 := txt_putL_len _ _ (by omega)
      go_wp2_with (at_builtin; refine wpList_join rfl _ _ rfl w2.heap.size _ _ _ rfl hown w2.heap.size _ l.length c2 (bs l) rfl hr3 (bs_one l) (by omega) hs3 ?_; intro v4 w4 hown4 hb4)
      go_ret2
      refine ⟨_, rfl, ?_, HB.out.trans ((hb3.trans hb4).mono hs12)⟩
      rw [HT.out]
      exact own_mono (txt_own hown4) hs12
    · have e3 : txtC l = enc l := by simp [txtC, hle]
      have e4 : txtF l = 128 := by simp [txtF, hle]
      rw [e3, e4] at HE HT
      clear e3 e4
      go_enter Try.func43, Try.ntmps43
      go_wp2_with fail
      refine (encode_gave3 l (by omega) w).mono ?_
      rintro e w1 ⟨A1, c1, rfl, hc1, hr1, hb1⟩
      have HB := Lib.hid hb1
      have hs1 := hb1.size
      clear hb1
      go_wp2_with fail
      refine (wput_any ((enc l).length : Nat) 7 128 w1).mono ?_
      rintro e w3 ⟨v, rfl, hown, hb3⟩
      rw [HE.out, errV_zero]
      have hr3 := hr1.below hb3
      have hs3 := hb3.size
      have hp6 : (putL ((enc l).length : Nat) 7 128).length ≤ 1000 := txt_putL_len _ _ (by omega)
      go_wp2_with (at_builtin; refine wpList_join rfl _ _ rfl w1.heap.size _ _ _ rfl hown w1.heap.size _ (enc l).length c1 (bs (enc l)) rfl hr3 (bs_one (enc l)) (by omega) hs3 ?_; intro v4 w4 hown4 hb4)
      go_ret2
      refine ⟨_, rfl, ?_, HB.out.trans ((hb3.trans hb4).mono hs1)⟩
      rw [HT.out]
      exact own_mono (txt_own hown4) hs1
end Go.Proofs.Ytkbbkamnmdeagaa
