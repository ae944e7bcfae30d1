/-
  A text as bytes: the contract of head.Text. Condition: none (a text over 400 bytes is a fault).
  The text that bytes begin with: the contract of head.ReadText. Condition: the bound on the row's length.
  A table behind a pointer: the contracts of Max, Resize, Get. Condition: none but what the table's own words say.
  A coder's own small words: Weight, full; the writer's num and text. Condition: the fields' texts' lengths; the bound on the bytes.
-/
import Derived.Test.YtbgnggkgmeagkaaGreatDoorMTopLines07
import Derived.Test.YtbgnggkgmeagkaaGreatDoorMTopLines05
import Derived.Test.YtbgnggkgmeagkaaGreatDoorMTopLines03
import Derived.Deep.QuietTactic
import Derived.BigQuiet
import Derived.Test.YtbgnggkgmeagkaaGreatDoorMTopLines04
set_option linter.unusedSimpArgs false
set_option linter.unusedVariables false
namespace Go.Proofs.YtbgnggkgmeagkaaGreatDoor
open Go.RowKit

theorem encode_gave3 (l : List UInt8) (hl : l.length ≤ 68719476736) (w : World) :
    Calls Tryz.prog 146 #[.string ⟨l.toArray⟩] w fun e w' => ∃ A c, e = .returned (.slice A (enc l).length c) ∧ Gave w w' (enc l) A c := by
  refine (encode_any l hl w).mono ?_
  rintro e w' ⟨v, he, hown, hb⟩
  obtain ⟨A, c, rfl, hg⟩ := gave_of_own hown hb
  exact ⟨A, c, he, hg⟩
theorem txt_own {w' : World} {v : Value} {B : Nat} {a b : List UInt8} (h : w'.ownsRow B 5 1 v (a.length + b.length) (bs a ++ bs b)) : w'.ownsRow B 5 1 v (a ++ b).length (bs (a ++ b)) := by
  rw [List.length_append, bs_append]
  exact h

set_option maxRecDepth 100000 in
set_option maxHeartbeats 4000000 in
theorem htext_any (l : List UInt8) (w : World) (hlm : l.length ≤ 140737488355328) :
    Calls Tryz.prog 90 #[.string ⟨l.toArray⟩] w fun e w' => ∃ v, e = .returned (.tuple #[v, errV (txtE l)]) ∧ w'.ownsRow w.heap.size 5 1 v (txtL l).length (bs (txtL l)) ∧ Below w.heap.size w w' := by
  by_cases h4 : 400 < l.length
  · have e1 : txtE l = 4 := by simp [txtE, h4]
    have e2 : txtL l = [] := by simp [txtL, h4]
    rw [e1, e2]
    go_enter Tryz.func90, Tryz.ntmps90
    go_wp2
    go_ret2
    exact ⟨_, rfl, World.ownsRow_nil _ _ _ _, Below.refl _ _⟩
  · have e1 : txtE l = 0 := by simp [txtE, h4]
    have e2 : txtL l = putL ((txtC l).length : Nat) 7 (txtF l) ++ txtC l := by simp [txtL, h4]
    have HE := Lib.hid (txt_putE l (by omega))
    have HT := Lib.hid e2
    rw [e1, errV_zero]
    clear e1 e2
    by_cases hle : l.length ≤ (enc l).length
    · have e3 : txtC l = l := by simp [txtC, hle]
      have e4 : txtF l = 0 := by simp [txtF, hle]
      rw [e3, e4] at HE HT
      clear e3 e4
      go_enter Tryz.func90, Tryz.ntmps90
      go_wp2_with fail
      refine (encode_gave3 l (by omega) w).mono ?_
      rintro e w1 ⟨A1, c1, rfl, hc1, hr1, hb1⟩
      obtain ⟨c2, w2, hk, hc2, hr2, hb2, hz2⟩ := conv_bytes w1 l
      have hb12 := hb1.trans (hb2.mono hb1.size)
      have HB := Lib.hid hb12
      have hs12 := hb12.size
      clear hr1 hb1 hb2 hb12
      go_wp2_with fail
      refine (wput_any (l.length : Nat) 7 0 w2).mono ?_
      rintro e w3 ⟨v, rfl, hown, hb3⟩
      rw [HE.out, errV_zero]
      have hr3 := hr2.below hb3
      have hs3 := hb3.size
      have hp6 : (putL (l.length : Nat) 7 0).length ≤ 1000 := txt_putL_len _ _ (by omega)
      go_wp2_with (at_builtin; refine wpList_join rfl _ _ rfl w2.heap.size _ _ _ rfl hown w2.heap.size _ l.length c2 (bs l) rfl hr3 (bs_one l) (by omega) hs3 ?_; intro v4 w4 hown4 hb4)
      go_ret2
      refine ⟨_, rfl, ?_, HB.out.trans ((hb3.trans hb4).mono hs12)⟩
      rw [HT.out]
      exact own_mono (txt_own hown4) hs12
    · have e3 : txtC l = enc l := by simp [txtC, hle]
      have e4 : txtF l = 128 := by simp [txtF, hle]
      rw [e3, e4] at HE HT
      clear e3 e4
      go_enter Tryz.func90, Tryz.ntmps90
      go_wp2_with fail
      refine (encode_gave3 l (by omega) w).mono ?_
      rintro e w1 ⟨A1, c1, rfl, hc1, hr1, hb1⟩
      have HB := Lib.hid hb1
      have hs1 := hb1.size
      clear hb1
      go_wp2_with fail
      refine (wput_any ((enc l).length : Nat) 7 128 w1).mono ?_
      rintro e w3 ⟨v, rfl, hown, hb3⟩
      rw [HE.out, errV_zero]
      have hr3 := hr1.below hb3
      have hs3 := hb3.size
      have hp6 : (putL ((enc l).length : Nat) 7 128).length ≤ 1000 := txt_putL_len _ _ (by omega)
      go_wp2_with (at_builtin; refine wpList_join rfl _ _ rfl w1.heap.size _ _ _ rfl hown w1.heap.size _ (enc l).length c1 (bs (enc l)) rfl hr3 (bs_one (enc l)) (by omega) hs3 ?_; intro v4 w4 hown4 hb4)
      go_ret2
      refine ⟨_, rfl, ?_, HB.out.trans ((hb3.trans hb4).mono hs1)⟩
      rw [HT.out]
      exact own_mono (txt_own hown4) hs1
end Go.Proofs.YtbgnggkgmeagkaaGreatDoor
namespace Go.Proofs.YtbgnggkgmeagkaaGreatDoor
open Go.RowKit

section
variable {l : List UInt8} {N U : Nat}
theorem readT_err {E : Nat} (h : getV l 7 = (N, U, E)) (hE : E ≠ 0) : readT l = ([], 0, E) := by simp [readT, h, hE]
theorem readT_full (h : getV l 7 = (N, U, 0)) (h4 : 400 < N) : readT l = ([], 0, 4) := by simp [readT, h, h4]
theorem readT_short (h : getV l 7 = (N, U, 0)) (h4 : ¬ 400 < N) (h5 : l.length < U + N) : readT l = ([], 0, 8) := by simp [readT, h, h4, h5]
theorem readT_none (h : getV l 7 = (N, U, 0)) (h4 : ¬ 400 < N) (h5 : ¬ l.length < U + N) (h6 : 128 ≤ (l.headD 0).toNat) (hd : decode ((l.drop U).take N) = none) : readT l = ([], 0, 2) := by
  simp only [readT, h, if_pos h6, hd]
  rw [if_neg (by simp), if_neg h4, if_neg h5]
theorem readT_some {s : List UInt8} (h : getV l 7 = (N, U, 0)) (h4 : ¬ 400 < N) (h5 : ¬ l.length < U + N) (hd : (if 128 ≤ (l.headD 0).toNat then decode ((l.drop U).take N) else some ((l.drop U).take N)) = some s) :
    readT l = if 400 < s.length then ([], 0, 4) else if txtL s = l.take (U + N) then (s, U + N, 0) else ([], 0, 2) := by
  simp only [readT, h, hd]
  rw [if_neg (by simp), if_neg h4, if_neg h5]
end
theorem htext_gave (l : List UInt8) (w : World) (hlm : l.length ≤ 140737488355328) :
    Calls Tryz.prog 90 #[.string ⟨l.toArray⟩] w fun e w' => ∃ A c, e = .returned (.tuple #[.slice A (txtL l).length c, errV (txtE l)]) ∧ Gave w w' (txtL l) A c := by
  refine (htext_any l w hlm).mono ?_
  rintro e w' ⟨v, he, hown, hb⟩
  obtain ⟨A, c, rfl, hg⟩ := gave_of_own hown hb
  exact ⟨A, c, he, hg⟩
theorem decode_len {l s : List UInt8} (h : decode l = some s) : s.length ≤ 2 * l.length := by
  have h1 := enc_decode l s h
  have h2 := enc_length s
  rw [h1] at h2
  have h3 : ∀ s : List UInt8, 6 * s.length ≤ (encBits s).length := by
    intro s
    induction s with
    | nil => simp
    | cons c s ih =>
      rw [encBits_cons, List.length_append, cw_length, List.length_cons]
      split <;> omega
  have := h3 s
  omega
theorem decode_is (l s : List UInt8) (h : decode l = some s) (hl : l.length ≤ 1099511627776) (A : Option Addr) (n c : Nat) (hn : n = l.length) (w : World) (hr : Reads w w.heap.size 1 A l.length (bs l)) :
    Calls Tryz.prog 271 #[.slice A n c] w fun e w' => e = .returned (.tuple #[.string ⟨s.toArray⟩, .nilIface]) ∧ Below w.heap.size w w' := by
  refine (decode_any l hl A n c hn w hr).mono ?_
  rintro e w' ⟨he, hb⟩
  simpa [decS, decE, h, errV] using And.intro he hb
theorem decode_not (l : List UInt8) (h : decode l = none) (hl : l.length ≤ 1099511627776) (A : Option Addr) (n c : Nat) (hn : n = l.length) (w : World) (hr : Reads w w.heap.size 1 A l.length (bs l)) :
    Calls Tryz.prog 271 #[.slice A n c] w fun e w' => e = .returned (.tuple #[.string ⟨#[]⟩, .iface 95 (.int .i64 2)]) ∧ Below w.heap.size w w' := by
  refine (decode_any l hl A n c hn w hr).mono ?_
  rintro e w' ⟨he, hb⟩
  simpa [decS, decE, h, errV] using And.intro he hb

set_option maxRecDepth 100000 in
set_option maxHeartbeats 4000000 in
theorem hread_any (l : List UInt8) (A : Option Addr) (n c : Nat) (hn : n = l.length) (hcap : l.length ≤ c) (hm : l.length ≤ 140737488355328) (w : World) (hr : Reads w w.heap.size 1 A l.length (bs l)) :
    Calls Tryz.prog 208 #[.slice A n c] w fun e w' => e = .returned (.tuple #[.string ⟨(readT l).1.toArray⟩, .int .i64 ((readT l).2.1 : Nat), errV (readT l).2.2]) ∧ Below w.heap.size w w' := by
  subst hn
  obtain ⟨N, U, E, hV⟩ : ∃ N U E, getV l 7 = (N, U, E) := ⟨_, _, _, rfl⟩
  by_cases hE : E ≠ 0
  · rw [readT_err hV hE, errV_pos hE]
    have HV := Lib.hid hV
    have HE := Lib.hid hE
    clear hV hE
    go_enter Tryz.func208, Tryz.ntmps208
    go_wp2_with fail
    refine (wget_any l 7 A _ c rfl hcap hm _ w hr).mono ?_
    rintro e w' ⟨rfl, rfl⟩
    rw [HV.out, errV_pos HE.out]
    go_wp2
    go_ret3
    exact ⟨rfl, Below.refl _ _⟩
  have hE0 : E = 0 := Decidable.not_not.1 hE
  subst hE0
  clear hE
  have hu := getV_used (l := l) (t := 7) (by rw [hV])
  rw [hV] at hu
  simp only at hu
  obtain ⟨hu1, hu2, hu3⟩ := hu
  by_cases h4 : 400 < N
  · rw [readT_full hV h4, errV_pos (by decide)]
    have HV := Lib.hid hV
    clear hV
    go_enter Tryz.func208, Tryz.ntmps208
    go_wp2_with fail
    refine (wget_any l 7 A _ c rfl hcap hm _ w hr).mono ?_
    rintro e w' ⟨rfl, rfl⟩
    rw [HV.out, errV_zero]
    go_wp2
    go_ret3
    exact ⟨rfl, Below.refl _ _⟩
  by_cases h5 : l.length < U + N
  · rw [readT_short hV h4 h5, errV_pos (by decide)]
    have HV := Lib.hid hV
    clear hV
    go_enter Tryz.func208, Tryz.ntmps208
    go_wp2_with fail
    refine (wget_any l 7 A _ c rfl hcap hm _ w hr).mono ?_
    rintro e w' ⟨rfl, rfl⟩
    rw [HV.out, errV_zero]
    go_wp2
    go_ret3
    exact ⟨rfl, Below.refl _ _⟩
  obtain ⟨b, off, y0, rfl, hbB, hcell, hhd, hy0⟩ := reads_head hr (by omega)
  have hmid := reads_mid (c := c) hr (at_ := U) (n := N) (by omega) hcap
  have hlen : ((l.drop U).take N).length = N := by simp; omega
  have htake := hr.take (k := U + N) (by omega)
  rw [bs_take] at htake
  have hlt : (l.take (U + N)).length = U + N := by simp; omega
  obtain ⟨mid, hmidL⟩ : ∃ mid, (l.drop U).take N = mid := ⟨_, rfl⟩
  obtain ⟨all, hallL⟩ : ∃ all, l.take (U + N) = all := ⟨_, rfl⟩
  obtain ⟨A1, hA1⟩ : ∃ A1, (if c = U then some (⟨b, off, none⟩ : Addr) else some ⟨b, off + U, none⟩) = A1 := ⟨_, rfl⟩
  rw [hmidL] at hmid hlen
  rw [hallL] at htake hlt
  rw [hA1] at hmid
  have hk := fun (W : World) (hW : Below w.heap.size w W) => run_str (w := W) (A := A1) (l := mid) (by rw [hlen]; exact hmid.below hW)
  rw [hlen] at hk
  have HHmid := Lib.hid hmidL
  have HHall := Lib.hid hallL
  have HA := Lib.hid hA1
  have hhi : U + N ≤ l.length := by omega
  by_cases h128 : 128 ≤ y0
  · cases hD : decode mid with
    | none =>
      rw [readT_none hV h4 h5 (by rw [hhd]; exact h128) (by rw [hmidL]; exact hD), errV_pos (by decide)]
      have HV := Lib.hid hV
      have hk0 := hk w (Below.refl _ _) (c - U)
      have HD := Lib.hid hD
      have hml := Nat.le_of_eq hlen
      have HL := Lib.hid hlen
      clear hV hD hmidL hallL hk hhd hlen hlt htake
      go_enter Tryz.func208, Tryz.ntmps208
      go_wp2_with fail
      refine (wget_any l 7 _ _ c rfl hcap hm _ w hr).mono ?_
      rintro e w' ⟨rfl, rfl⟩
      rw [HV.out, errV_zero]
      go_wp2_with fail
      refine (decode_not mid HD.out (by omega) A1 _ _ (by rw [HL.out]) w (by rw [HL.out]; exact hmid)).mono ?_
      rintro e w' ⟨rfl, hb1⟩
      go_wp2
      go_ret3
      exact ⟨rfl, hb1⟩
    | some s =>
      have hT := readT_some (s := s) hV h4 h5 (by rw [hhd, if_pos h128, hmidL]; exact hD)
      rw [hallL] at hT
      rw [hT]
      have HV := Lib.hid hV
      have hk0 := hk w (Below.refl _ _) (c - U)
      have HD := Lib.hid hD
      have HM := Lib.hid hlen
      have hml := Nat.le_of_eq hlen
      have HL := Lib.hid hlt
      by_cases hs4 : 400 < s.length
      · rw [if_pos hs4, errV_pos (by decide)]
        have hT0 : txtE s = 4 := by rw [txtE, if_pos hs4]
        have HT0 := Lib.hid hT0
        have hsl := decode_len HD.out
        clear hV hmidL hallL hk hhd hlt hT hT0 hlen hD
        go_enter Tryz.func208, Tryz.ntmps208
        go_wp2_with fail
        refine (wget_any l 7 _ _ c rfl hcap hm _ w hr).mono ?_
        rintro e w' ⟨rfl, rfl⟩
        rw [HV.out, errV_zero]
        go_wp2_with fail
        refine (decode_is mid s HD.out (by omega) A1 _ _ (by rw [HM.out]) w (by rw [HM.out]; exact hmid)).mono ?_
        rintro e w1 ⟨rfl, hb1⟩
        go_wp2_with fail
        refine (htext_gave s w1 (by omega)).mono ?_
        rintro e w' ⟨A2, c2, rfl, hc2, hr2, hb2⟩
        rw [HT0.out, errV_pos (by decide)]
        go_wp2
        go_ret3
        exact ⟨rfl, hb1.trans (hb2.mono hb1.size)⟩
      rw [if_neg hs4]
      have hT0 : txtE s = 0 := by rw [txtE, if_neg hs4]
      have HT0 := Lib.hid hT0
      by_cases hx : txtL s = all
      · rw [if_pos hx]
        subst hx
        clear hV hmidL hallL hk hhd hlt hT hT0 hlen hD
        go_enter Tryz.func208, Tryz.ntmps208
        go_wp2_with fail
        refine (wget_any l 7 _ _ c rfl hcap hm _ w hr).mono ?_
        rintro e w' ⟨rfl, rfl⟩
        rw [HV.out, errV_zero]
        go_wp2_with fail
        refine (decode_is mid s HD.out (by omega) A1 _ _ (by rw [HM.out]) w (by rw [HM.out]; exact hmid)).mono ?_
        rintro e w1 ⟨rfl, hb1⟩
        go_wp2_with fail
        refine (htext_gave s w1 (by omega)).mono ?_
        rintro e w' ⟨A2, c2, rfl, hc2, hr2, hb2⟩
        rw [HT0.out, errV_zero]
        have k2 := fun m => run_str (w := w'.drewN m) (hr2.drewN m) c2
        have k3 := fun m => run_str (w := w'.drewN m) (A := some ⟨b, off, none⟩) (l := txtL s) (by rw [HL.out]; exact ((htake.below hb1).below (hb2.mono hb1.size)).drewN m) c
        rw [HL.out] at k2 k3 ⊢
        go_wp2_with fail
        go_quiet (fail)
        go_wp2
        go_ret3
        exact ⟨rfl, below_dN (hb1.trans (hb2.mono hb1.size)) _⟩
      · rw [if_neg hx]
        have hx2 : (txtL s == all) = false := by simpa using hx
        clear hV hmidL hallL hk hhd hlt hT hT0 hlen hD
        go_enter Tryz.func208, Tryz.ntmps208
        go_wp2_with fail
        refine (wget_any l 7 _ _ c rfl hcap hm _ w hr).mono ?_
        rintro e w' ⟨rfl, rfl⟩
        rw [HV.out, errV_zero]
        go_wp2_with fail
        refine (decode_is mid s HD.out (by omega) A1 _ _ (by rw [HM.out]) w (by rw [HM.out]; exact hmid)).mono ?_
        rintro e w1 ⟨rfl, hb1⟩
        go_wp2_with fail
        refine (htext_gave s w1 (by omega)).mono ?_
        rintro e w' ⟨A2, c2, rfl, hc2, hr2, hb2⟩
        rw [HT0.out, errV_zero]
        have k2 := fun m => run_str (w := w'.drewN m) (hr2.drewN m) c2
        have k3 := fun m => run_str (w := w'.drewN m) (A := some ⟨b, off, none⟩) (l := all) (by rw [HL.out]; exact ((htake.below hb1).below (hb2.mono hb1.size)).drewN m) c
        rw [HL.out] at k3
        go_wp2_with fail
        go_quiet (fail)
        go_wp2
        go_ret3
        exact ⟨rfl, below_dN (hb1.trans (hb2.mono hb1.size)) _⟩
  · have hT := readT_some (s := mid) hV h4 h5 (by rw [hhd, if_neg h128, hmidL])
    rw [hallL] at hT
    rw [hT, if_neg (by omega)]
    have HV := Lib.hid hV
    have hk0 := hk w (Below.refl _ _) (c - U)
    have hT0 : txtE mid = 0 := by rw [txtE, if_neg (by omega)]
    have HT0 := Lib.hid hT0
    have hml : mid.length ≤ 400 := by omega
    have HL := Lib.hid hlt
    by_cases hx : txtL mid = all
    · rw [if_pos hx]
      subst hx
      clear hV hmidL hallL hk hhd hlen hlt hT hT0
      go_enter Tryz.func208, Tryz.ntmps208
      go_wp2_with fail
      refine (wget_any l 7 _ _ c rfl hcap hm _ w hr).mono ?_
      rintro e w' ⟨rfl, rfl⟩
      rw [HV.out, errV_zero]
      go_wp2_with fail
      refine (htext_gave mid w (by omega)).mono ?_
      rintro e w' ⟨A2, c2, rfl, hc2, hr2, hb2⟩
      rw [HT0.out, errV_zero]
      have k2 := fun m => run_str (w := w'.drewN m) (hr2.drewN m) c2
      have k3 := fun m => run_str (w := w'.drewN m) (A := some ⟨b, off, none⟩) (l := txtL mid) (by rw [HL.out]; exact (htake.below hb2).drewN m) c
      rw [HL.out] at k2 k3 ⊢
      go_wp2_with fail
      go_quiet (fail)
      go_wp2
      go_ret3
      exact ⟨rfl, below_dN hb2 _⟩
    · rw [if_neg hx]
      have hx2 : (txtL mid == all) = false := by simpa using hx
      clear hV hmidL hallL hk hhd hlt hT hT0 hlen
      go_enter Tryz.func208, Tryz.ntmps208
      go_wp2_with fail
      refine (wget_any l 7 _ _ c rfl hcap hm _ w hr).mono ?_
      rintro e w' ⟨rfl, rfl⟩
      rw [HV.out, errV_zero]
      go_wp2_with fail
      refine (htext_gave mid w (by omega)).mono ?_
      rintro e w' ⟨A2, c2, rfl, hc2, hr2, hb2⟩
      rw [HT0.out, errV_zero]
      have k2 := fun m => run_str (w := w'.drewN m) (hr2.drewN m) c2
      have k3 := fun m => run_str (w := w'.drewN m) (A := some ⟨b, off, none⟩) (l := all) (by rw [HL.out]; exact (htake.below hb2).drewN m) c
      rw [HL.out] at k3
      go_wp2_with fail
      go_quiet (fail)
      go_wp2
      go_ret3
      exact ⟨rfl, below_dN hb2 _⟩
end Go.Proofs.YtbgnggkgmeagkaaGreatDoor
namespace Go.Proofs.YtbgnggkgmeagkaaGreatDoor
open Go.RowKit
attribute [local go_sem ↓] Go.wp_at_zero Go.wp_at_succ

set_option maxHeartbeats 1000000 in
theorem resize_no {w : World} (g : Nat) (m : Int) (h : m < 0 ∨ 4096 < m) :
    Calls Tryz.prog 97 #[.pointer (some ⟨g, 0, none⟩), .int .i64 m] w fun e w' => e = .returned (.iface 95 (.int .i64 1)) ∧ w = w' := by
  have H := Lib.hid h
  clear h
  go_enter Tryz.func97, Tryz.ntmps97
  go_wp2_with (go_at_call 85; refine (right_no _ H.out _).mono ?_; rintro e w' ⟨rfl, rfl⟩)
  go_ret
  exact ⟨rfl, rfl⟩
theorem Tab.setMx {w : World} {g : Nat} {A : Option Addr} {c : Nat} {xs : List Fld} {mx : Nat} (h : Tab w g A c xs mx) (m : Nat) (hm : m ≤ 4096) : Tab (w.setCell ⟨g, 2, none⟩ (.int .i64 (m : Int))) g A c xs m := by
  refine ⟨?_, own_setT h.own (tab_ne h) _, h.wt, hm⟩
  have := h.blk.set_ 2 (.int .i64 (m : Int))
  simpa using this
set_option maxHeartbeats 1000000 in
theorem resize_yes {w : World} {g : Nat} {A : Option Addr} {c : Nat} {xs : List Fld} {mx : Nat} (h : Tab w g A c xs mx) (m : Nat) (hm : m ≤ 4096) :
    Calls Tryz.prog 97 #[.pointer (some ⟨g, 0, none⟩), .int .i64 (m : Int)] w fun e w' => e = .returned .nilIface ∧ Tab w' g A c (shr m xs) m ∧ Keep (tOwn g A) w w' := by
  obtain ⟨_, _, c2⟩ := h.cells
  have f2 := h.blk.frozen 2
  have h2 := Lib.hid (h.setMx m hm)
  have hk := Lib.hid ((Keep.refl (tOwn g A) w).setCell (p := ⟨g, 2, none⟩) (.inl (.inl rfl)) (.int .i64 (m : Int)))
  clear h
  go_enter Tryz.func97, Tryz.ntmps97
  go_wp2_with (go_at_call 85; refine (right_yes _ (by omega) (by omega) _).mono ?_; rintro e w' ⟨rfl, rfl⟩)
  go_wp2_with (go_at_call 92; refine (shrink_any h2.out m hm).mono ?_; rintro e w' ⟨rfl, h3, h4⟩)
  go_ret
  exact ⟨rfl, h3, hk.out.trans h4 fun _ hi => .inl hi⟩

theorem alw_reads (w : World) : Reads (w.alloc (.cells (fvs alw).toArray 41)) (w.heap.size + 1) 2 (some ⟨w.heap.size, 0, none⟩) alw.length (fvs alw) := by
  refine ⟨fvs_length _, fun _ => ⟨_, rfl, by simp, fun j u hu => ?_⟩⟩
  rw [Addr.add_lit, Blk.cell (Blk.new _ _ _)]
  simpa using hu
theorem tAll_low {xs : List Fld} {k : Nat} (h : k < 12) : (tAll xs).getD k ([], []) = alw[k]'h := by
  rw [List.getD_eq_getElem?_getD, tAll, List.getElem?_append_left (by rw [alw_len]; exact h), List.getElem?_eq_getElem (by rw [alw_len]; exact h)]
  rfl
theorem tAll_high {xs : List Fld} {k : Nat} (h : k < xs.length) : (tAll xs).getD (12 + k) ([], []) = xs[k] := by
  rw [List.getD_eq_getElem?_getD, tAll, List.getElem?_append_right (by rw [alw_len]; omega), alw_len, Nat.add_sub_cancel_left, List.getElem?_eq_getElem h, Option.getD_some]

/-- Behind a call: the result's own cells. -/
theorem res_behind {w w1 : World} (hb : Below ((w.alloc (.cells #[.string ⟨#[]⟩, .string ⟨#[]⟩] 41)).alloc (.cells (fvs alw).toArray 41)).heap.size ((w.alloc (.cells #[.string ⟨#[]⟩, .string ⟨#[]⟩] 41)).alloc (.cells (fvs alw).toArray 41)) w1) :
    w1.cell? ⟨w.heap.size, 0, none⟩ = some (.string ⟨#[]⟩) ∧ w1.cell? ⟨w.heap.size, 1, none⟩ = some (.string ⟨#[]⟩) ∧ w1.frozen? ⟨w.heap.size, 0, none⟩ = false ∧ w1.frozen? ⟨w.heap.size, 1, none⟩ = false := by
  have hB : Blk ((w.alloc (.cells #[.string ⟨#[]⟩, .string ⟨#[]⟩] 41)).alloc (.cells (fvs alw).toArray 41)) w.heap.size 41 #[.string ⟨#[]⟩, .string ⟨#[]⟩] := (Blk.new w _ _).alloc _
  have h2 : Blk w1 w.heap.size 41 #[.string ⟨#[]⟩, .string ⟨#[]⟩] := hB.below hb (by simp; omega)
  exact ⟨h2.cell 0, h2.cell 1, h2.frozen 0, h2.frozen 1⟩

set_option maxRecDepth 100000 in
set_option maxHeartbeats 4000000 in
theorem get_no {w : World} {g : Nat} {A : Option Addr} {c : Nat} {xs : List Fld} {mx : Nat} (h : Tab w g A c xs mx) (i : Int) (hi : i < 1 ∨ ((12 + xs.length : Nat) : Int) < i) :
    Calls Tryz.prog 95 #[.pointer (some ⟨g, 0, none⟩), .int .i64 i] w fun e w' => e = .returned (.tuple #[.agg #[.string ⟨#[]⟩, .string ⟨#[]⟩], .iface 95 (.int .i64 5)]) ∧ Below w.heap.size w w' := by
  rcases hi with hi | hi
  · have hd : decide (i < 1) = true := by simpa using hi
    clear hi h
    go_enter Tryz.func95, Tryz.ntmps95
    go_wp2_with (go_at_call 89; refine (always_any _).mono ?_; rintro e w' ⟨rfl, rfl⟩)
    exact bodyPost_ret (v := .tuple #[.agg #[.string ⟨#[]⟩, .string ⟨#[]⟩], .iface 95 (.int .i64 5)]) (by simp [results, Tryz.results95, go_sem]) rfl ⟨rfl, ((Below.refl _ _).alloc (Nat.le_refl _) _).alloc (by simp) _⟩
  · have hd : decide (i < 1) = false := by simp; omega
    have hd2 : decide (12 + (xs.length : Int) < i) = true := by simp; omega
    have hb1 := (Below.refl w.heap.size w).alloc (Nat.le_refl _) (.cells #[.string ⟨#[]⟩, .string ⟨#[]⟩] 41)
    have hb2 := Lib.hid (hb1.alloc hb1.size (.cells (fvs alw).toArray 41))
    have hT := Lib.hid (h.below hb2.out)
    clear hi h hb1
    go_enter Tryz.func95, Tryz.ntmps95
    go_wp2_with (go_at_call 89; refine (always_any _).mono ?_; rintro e w' ⟨rfl, rfl⟩)
    go_wp2_with fail
    refine (len_any hT.out).mono ?_
    rintro e w1 ⟨rfl, hb3⟩
    obtain ⟨r0, r1, r2, r3⟩ := res_behind hb3
    have hb4 := Lib.hid (hb2.out.trans (hb3.mono hb2.out.size))
    clear hb3
    go_wp2
    exact bodyPost_ret (v := .tuple #[.agg #[.string ⟨#[]⟩, .string ⟨#[]⟩], .iface 95 (.int .i64 5)]) (by simp [results, Tryz.results95, go_sem, r0, r1]) rfl ⟨rfl, (hb4.out.setCell (p := ⟨w.heap.size, 0, none⟩) (Nat.le_refl _) _).setCell (p := ⟨w.heap.size, 1, none⟩) (Nat.le_refl _) _⟩

set_option maxRecDepth 100000 in
set_option maxHeartbeats 4000000 in
theorem get_yes {w : World} {g : Nat} {A : Option Addr} {c : Nat} {xs : List Fld} {mx : Nat} (h : Tab w g A c xs mx) (k : Nat) (hk : k < 12 + xs.length) (f : Fld) (hf : (tAll xs).getD k ([], []) = f) :
    Calls Tryz.prog 95 #[.pointer (some ⟨g, 0, none⟩), .int .i64 ((k : Int) + 1)] w fun e w' => e = .returned (.tuple #[.agg #[.string ⟨f.1.toArray⟩, .string ⟨f.2.toArray⟩], .nilIface]) ∧ Below w.heap.size w w' := by
  have hd : decide ((k : Int) + 1 < 1) = false := by simp; omega
  have hd2 : decide (12 + (xs.length : Int) < (k : Int) + 1) = false := by simp; omega
  have hcap := h.cap.2.2
  have hb1 := (Below.refl w.heap.size w).alloc (Nat.le_refl _) (.cells #[.string ⟨#[]⟩, .string ⟨#[]⟩] 41)
  have hb2 := Lib.hid (hb1.alloc hb1.size (.cells (fvs alw).toArray 41))
  have hT := Lib.hid (h.below hb2.out)
  clear hb1
  by_cases hlow : k < 12
  · have hal := alw_reads (w.alloc (.cells #[.string ⟨#[]⟩, .string ⟨#[]⟩] 41))
    have hr := hal.more (show _ ≤ ((w.alloc (.cells #[.string ⟨#[]⟩, .string ⟨#[]⟩] 41)).alloc (.cells (fvs alw).toArray 41)).heap.size by simp)
    have HR := Lib.hid hr
    rw [tAll_low hlow] at hf
    clear hal hr h
    have hl12 : ((k : Int) + 1 ≤ 12) := by omega
    go_enter Tryz.func95, Tryz.ntmps95
    go_wp2_with (go_at_call 89; refine (always_any _).mono ?_; rintro e w' ⟨rfl, rfl⟩)
    go_wp2_with fail
    refine (len_any hT.out).mono ?_
    rintro e w1 ⟨rfl, hb3⟩
    obtain ⟨r0, r1, r2, r3⟩ := res_behind hb3
    obtain ⟨b, off, he, _, hcl⟩ := reads_fld (HR.out.below hb3) (by decide)
    obtain ⟨e1, e2⟩ := hcl k hlow
    cases he
    rw [hf] at e1 e2
    simp only [World.size_alloc, Nat.zero_add] at e1 e2
    have hb4 := Lib.hid (hb2.out.trans (hb3.mono hb2.out.size))
    clear hb3 hcl hf
    go_wp2
    exact bodyPost_ret (v := .tuple #[.agg #[.string ⟨f.1.toArray⟩, .string ⟨f.2.toArray⟩], .nilIface]) (by simp [results, Tryz.results95, go_sem, r0, r1]) rfl ⟨rfl, (hb4.out.setCell (p := ⟨w.heap.size, 0, none⟩) (Nat.le_refl _) _).setCell (p := ⟨w.heap.size, 1, none⟩) (Nat.le_refl _) _⟩
  · obtain ⟨j, rfl⟩ : ∃ j, k = 12 + j := ⟨k - 12, by omega⟩
    rw [tAll_high (by omega)] at hf
    have hh := hT.out
    obtain ⟨c0, _, _⟩ := hh.cells
    obtain ⟨b, off, rfl, hbB, hcl⟩ := reads_fld (reads_own hh.own) (by omega)
    obtain ⟨e1, e2⟩ := hcl j (by omega)
    rw [hf] at e1 e2
    have hl12 : decide (((12 + j : Nat) : Int) + 1 ≤ 12) = false := by simp; omega
    have hj : ((12 + j : Nat) : Int) = 12 + (j : Int) := by omega
    rw [hj] at hd hd2 hl12 ⊢
    have hj2 : (j : Int) < (xs.length : Int) := by omega
    clear hcl hf hh h hj
    go_enter Tryz.func95, Tryz.ntmps95
    go_wp2_with (go_at_call 89; refine (always_any _).mono ?_; rintro e w' ⟨rfl, rfl⟩)
    go_wp2_with fail
    refine (len_any hT.out).mono ?_
    rintro e w1 ⟨rfl, hb3⟩
    obtain ⟨r0, r1, r2, r3⟩ := res_behind hb3
    have q0 := cell_behind hb3 c0
    have q1 := cell_behind hb3 e1
    have q2 := cell_behind hb3 e2
    have hb4 := Lib.hid (hb2.out.trans (hb3.mono hb2.out.size))
    clear hb3 c0 e1 e2
    go_wp2
    exact bodyPost_ret (v := .tuple #[.agg #[.string ⟨f.1.toArray⟩, .string ⟨f.2.toArray⟩], .nilIface]) (by simp [results, Tryz.results95, go_sem, r0, r1]) rfl ⟨rfl, (hb4.out.setCell (p := ⟨w.heap.size, 0, none⟩) (Nat.le_refl _) _).setCell (p := ⟨w.heap.size, 1, none⟩) (Nat.le_refl _) _⟩
end Go.Proofs.YtbgnggkgmeagkaaGreatDoor
namespace Go.Proofs.YtbgnggkgmeagkaaGreatDoor
open Go.RowKit
attribute [local go_sem ↓] Go.wp_at_zero Go.wp_at_succ

set_option maxRecDepth 100000 in
set_option maxHeartbeats 4000000 in
theorem weight_any (l : List Fld) (hf : ∀ f ∈ l, fOk f) (hw : wt l ≤ 9000000000000000000) (A : Option Addr) (n c : Nat) (hn : n = l.length) (w : World) (hr : Reads w w.heap.size 2 A l.length (fvs l)) :
    Calls Tryz.prog 86 #[.slice A n c] w fun e w' => e = .returned (.int .i64 ((wt l : Nat) : Int)) ∧ Below w.heap.size w w' := by
  subst hn
  have HR := Lib.hid hr
  have HF := Lib.hid hf
  have hl := wt_len l
  clear hr hf
  go_enter Tryz.func86, Tryz.ntmps86
  go_wp2
  go_loopw [3, 8] (fun x i wr => ∃ k : Nat, k ≤ l.length ∧ i = .int .i64 (k : Int) ∧ x = .int .i64 ((wt (l.take k) : Nat) : Int) ∧ Hid (Below w.heap.size w wr)) (fun _ i _ => l.length - (intOf i).toNat)
  case atStart => exact ⟨0, Nat.zero_le _, rfl, rfl, Below.refl _ _⟩
  case round =>
    obtain ⟨k, hk, rfl, rfl, HB⟩ := hrel
    have hle := wt_take_le l k
    by_cases hlt : k < l.length
    · have hs := wt_take_succ l k hlt
      have hle2 := wt_take_le l (k + 1)
      obtain ⟨b, off, rfl, hbB, hcl⟩ := reads_fld (HR.out.below HB.out) (by omega)
      obtain ⟨e0, e1⟩ := hcl k hlt
      have hbr := Nat.lt_of_lt_of_le hbB HB.out.size
      have hfk := Lib.hid (HF.out l[k] (List.getElem_mem hlt))
      have HS := Lib.hid hs
      clear hcl hs
      generalize l[k] = f at *
      generalize wt (l.take k) = W at *
      have hW : fsz f + W ≤ 9000000000000000000 := by have := HS.out; omega
      have HB2 := Lib.hid (HB.out.alloc HB.out.size (.cells #[.string ⟨f.1.toArray⟩, .string ⟨f.2.toArray⟩] 41))
      have HB2s := HB2.out.size
      go_wp2_with (go_at_call 91; refine (size_any f hfk.out _).mono ?_; rintro e w1 ⟨rfl, hb1⟩)
      go_roundw
      case rel => exact ⟨k + 1, by omega, by go_num, by rw [HS.out]; go_num, HB2.out.trans (hb1.mono HB2s)⟩
      case measure => simp [intOf]; omega
    · have hke : l.take k = l := List.take_of_length_le (by omega)
      rw [hke] at hle ⊢
      go_wp2
      go_ret
      exact ⟨rfl, HB.out⟩

theorem wt_bound (l : List Fld) (hf : ∀ f ∈ l, fOk f) : wt l ≤ l.length * 281474976710688 := by
  induction l with
  | nil => exact Nat.zero_le _
  | cons f r ih =>
    have h1 := ih fun x hx => hf x (List.mem_cons_of_mem _ hx)
    obtain ⟨h2, h3⟩ := hf f List.mem_cons_self
    rw [wt_cons, List.length_cons, Nat.succ_mul]
    unfold fsz
    generalize r.length * 281474976710688 = M at *
    omega
set_option maxRecDepth 100000 in
set_option maxHeartbeats 1000000 in
theorem full_any (l : List Fld) (hf : ∀ f ∈ l, fOk f) (hm : l.length ≤ 140737488355328) (A : Option Addr) (n c : Nat) (hn : n = l.length) (w : World) (hr : Reads w w.heap.size 2 A l.length (fvs l)) :
    Calls Tryz.prog 40 #[.slice A n c] w fun e w' => e = .returned (.bool (tooMuch l)) ∧ Below w.heap.size w w' := by
  subst hn
  by_cases h40 : 40 < l.length
  · have e : tooMuch l = true := by simp [tooMuch, h40]
    rw [e]
    have hi : (40 : Int) < ((l.length : Nat) : Int) := by omega
    clear e hr
    go_enter Tryz.func40, Tryz.ntmps40
    go_wp2
    go_ret
    exact ⟨rfl, Below.refl _ _⟩
  · have hd : decide ((40 : Int) < ((l.length : Nat) : Int)) = false := by simp; omega
    have hwl : wt l ≤ 40 * 281474976710688 := by
      have h := wt_bound l hf
      have h3 : l.length * 281474976710688 ≤ 40 * 281474976710688 := Nat.mul_le_mul_right _ (by omega)
      exact Nat.le_trans h h3
    by_cases h2 : 2000 < wt l
    · have e : tooMuch l = true := by simp [tooMuch, h2]
      rw [e]
      have HI := Lib.hid (show (2000 : Int) < ((wt l : Nat) : Int) by omega)
      clear e
      go_enter Tryz.func40, Tryz.ntmps40
      go_wp2_with fail
      refine (weight_any l hf (by omega) A _ _ rfl w hr).mono ?_
      rintro e w1 ⟨rfl, hb⟩
      have hi := HI.out
      go_wp2
      go_ret
      exact ⟨rfl, hb⟩
    · have e : tooMuch l = false := by simp [tooMuch, h40, h2]
      rw [e]
      have HI := Lib.hid (show decide ((2000 : Int) < ((wt l : Nat) : Int)) = false by simp; omega)
      clear e
      go_enter Tryz.func40, Tryz.ntmps40
      go_wp2_with fail
      refine (weight_any l hf (by omega) A _ _ rfl w hr).mono ?_
      rintro e w1 ⟨rfl, hb⟩
      have hi := HI.out
      go_wp2
      go_ret
      exact ⟨rfl, hb⟩

/-- A writer: its block, the row that it owns; which blocks are its own. -/
structure Wr (w : World) (g : Nat) (v : Value) (l : List UInt8) : Prop where
  blk : Blk w g 97 #[v]
  own : w.ownsRow 0 5 1 v l.length (bs l)
def wOwn (g : Nat) (v : Value) (k : Nat) : Prop := k = g ∨ v.ownBlock = some k
theorem Wr.lt {w : World} {g : Nat} {v : Value} {l : List UInt8} (h : Wr w g v l) : ∀ k, wOwn g v k → k < w.heap.size := by
  rintro k (rfl | hk)
  · exact h.blk.lt
  · exact (h.own.lt k hk).2
theorem ownRow_keep {S : Nat → Prop} {w w' : World} {B size n : Nat} {e : TypeId} {v : Value} {xs : List Value} (h : w.ownsRow B e size v n xs) (hk : Keep S w w') (hS : ∀ k, v.ownBlock = some k → ¬ S k) : w'.ownsRow B e size v n xs := by
  refine ⟨h.1, ?_⟩
  rcases h.2 with h0 | ⟨g, cap, cur, rfl, hB, hh, hr⟩
  · exact .inl h0
  · exact .inr ⟨g, cap, cur, rfl, hB, (hk.block g (Blk.lt (t := e) (cs := cur) hh) (hS g rfl)).trans hh, hr⟩
theorem Wr.keep {S : Nat → Prop} {w w' : World} {g : Nat} {v : Value} {l : List UInt8} (h : Wr w g v l) (hk : Keep S w w') (hS : ∀ k, wOwn g v k → ¬ S k) : Wr w' g v l :=
  ⟨h.blk.keep hk (hS g (.inl rfl)), ownRow_keep h.own hk fun k hk => hS k (.inr hk)⟩
/-- What a piece that is written leaves of a writer. -/
def Wrote (w w' : World) (g : Nat) (v : Value) (l : List UInt8) : Prop := ∃ v', Wr w' g v' l ∧ Keep (wOwn g v) w w' ∧ ∀ k, wOwn g v' k → wOwn g v k ∨ w.heap.size ≤ k
theorem own_behindW {w w' : World} {base : Nat} {e : TypeId} {size n : Nat} {v : Value} {xs : List Value} (h : w.ownsRow base e size v n xs) (hb : Below w.heap.size w w') : w'.ownsRow base e size v n xs :=
  ownRow_keep h (Keep.of_below (S := fun _ => False) hb) fun _ _ h => h
theorem own_slice {w : World} {B size n : Nat} {e : TypeId} {v : Value} {xs : List Value} (h : w.ownsRow B e size v n xs) : ∃ A c, v = .slice A n c := by
  rcases h.2 with ⟨rfl, rfl⟩ | ⟨g, cap, cur, rfl, _⟩
  · exact ⟨_, _, rfl⟩
  · exact ⟨_, _, rfl⟩
theorem wrote_end {w w1 w2 : World} {g : Nat} {v v2 : Value} {l x : List UInt8} (h : Wr w g v l) (hb1 : Below w.heap.size w w1) (hown2 : w2.ownsRow 0 5 1 v2 (l.length + x.length) (bs l ++ bs x)) (hg2 : w1.grownBy w2 v.ownBlock)
    (hv : v2.ownBlock = v.ownBlock ∨ v2.ownBlock = some w1.heap.size) : Wrote w (w2.setCell ⟨g, 0, none⟩ v2) g v (l ++ x) ∧ w2.cell? ⟨g, 0, none⟩ = some v ∧ w2.frozen? ⟨g, 0, none⟩ = false ∧ g < w2.heap.size := by
  have hbk1 := h.blk.below hb1 h.blk.lt
  have hne : v.ownBlock ≠ some g := own_blk_ne h.own h.blk (by decide)
  have hbk2 : Blk w2 g 97 #[v] := hbk1.grown hg2 (fun e => hne e.symm)
  have hne2 : v2.ownBlock ≠ some g := by
    rcases hv with h1 | h1
    · rw [h1]; exact hne
    · rw [h1]
      intro e
      injection e with e
      have := hbk1.lt
      omega
  have k1 : Keep (wOwn g v) w w2 := (Keep.of_below (S := wOwn g v) hb1).grown hg2 fun k hk => .inl (.inr hk)
  refine ⟨⟨v2, ⟨?_, ?_⟩, k1.setCell (.inl (.inl rfl)) _, ?_⟩, hbk2.cell 0, hbk2.frozen 0, hbk2.lt⟩
  · have := hbk2.set_ 0 v2
    simpa using this
  · have k2 : Keep (fun k => k = g) w2 (w2.setCell ⟨g, 0, none⟩ v2) := (Keep.refl (fun k => k = g) w2).setCell (p := ⟨g, 0, none⟩) (.inl rfl) v2
    rw [List.length_append, bs_append]
    exact ownRow_keep hown2 k2 fun k hk he => hne2 (he ▸ hk)
  · rintro k (rfl | hk)
    · exact .inl (.inl rfl)
    · rcases hv with h1 | h1
      · exact .inl (.inr (by rw [← h1]; exact hk))
      · rw [h1] at hk
        cases hk
        exact .inr hb1.size

set_option maxRecDepth 100000 in
set_option maxHeartbeats 2000000 in
theorem wnum_any {w : World} {g : Nat} {v : Value} {l : List UInt8} (h : Wr w g v l) (n bits first : Int) (hl : l.length + (putL n bits first).length ≤ 140737488355328) :
    Calls Tryz.prog 41 #[.pointer (some ⟨g, 0, none⟩), .int .i64 n, .int .i64 bits, .int .i64 first] w fun e w' => e = .returned (.tuple #[]) ∧ Wrote w w' g v (l ++ putL n bits first) := by
  obtain ⟨i0, hi, hz0, hz1, hz2⟩ := info_parts u8_info
  have HI := Lib.hid hi
  have HZ0 := Lib.hid hz0
  have HZ1 := Lib.hid hz1
  have HZ2 := Lib.hid hz2
  have H := Lib.hid h
  clear hi hz0 hz1 hz2 h
  go_enter Tryz.func41, Tryz.ntmps41
  go_wp2_with fail
  refine (wput_any n bits first w).mono ?_
  rintro e w1 ⟨x, rfl, hox, hb1⟩
  obtain ⟨A, c, rfl, hg⟩ := gave_of_own hox hb1
  clear hox hb1
  have hbk := H.out.blk.below hg.2.2 H.out.blk.lt
  have c0 := hbk.cell 0
  have f0 := hbk.frozen 0
  have hlt := hbk.lt
  have HO1 := Lib.hid (own_behindW H.out.own hg.2.2)
  have HG := Lib.hid hg
  clear hg hbk
  go_wp2_with (at_builtin; refine wpList_append_any _ rfl _ _ 23 rfl 0 5 i0 (.int .u8 0) 1 1 Tryz.underlying23 HI.out HZ0.out HZ1.out HZ2.out rfl (by decide) _ _ _ rfl HO1.out w1.heap.size A (putL n bits first).length c (bs (putL n bits first)) rfl HG.out.2.1 (bs_one _) (by unfold maxLen; omega) (by omega) (Nat.zero_le _) ?_; intro v2 w2 hown2 hg2 hv2; obtain ⟨A2, c2, rfl⟩ := own_slice hown2; have hend := wrote_end H.out HG.out.2.2 hown2 hg2 hv2; have c0 := hend.2.1; have f0 := hend.2.2.1; have hlt := hend.2.2.2; have HEND := Lib.hid hend.1; clear hend)
  go_end0
  exact ⟨rfl, HEND.out⟩

set_option maxRecDepth 100000 in
set_option maxHeartbeats 2000000 in
theorem wtext_any {w : World} {g : Nat} {v : Value} {l : List UInt8} (h : Wr w g v l) (s : List UInt8) (hs : s.length ≤ 140737488355328) (hl : l.length + (txtL s).length ≤ 140737488355328) :
    Calls Tryz.prog 43 #[.pointer (some ⟨g, 0, none⟩), .string ⟨s.toArray⟩] w fun e w' => e = .returned (.tuple #[]) ∧ Wrote w w' g v (l ++ txtL s) := by
  obtain ⟨i0, hi, hz0, hz1, hz2⟩ := info_parts u8_info
  have HI := Lib.hid hi
  have HZ0 := Lib.hid hz0
  have HZ1 := Lib.hid hz1
  have HZ2 := Lib.hid hz2
  have H := Lib.hid h
  clear hi hz0 hz1 hz2 h
  go_enter Tryz.func43, Tryz.ntmps43
  go_wp2_with fail
  refine (htext_gave s w hs).mono ?_
  rintro e w1 ⟨A, c, rfl, hg⟩
  have hbk := H.out.blk.below hg.2.2 H.out.blk.lt
  have c0 := hbk.cell 0
  have f0 := hbk.frozen 0
  have hlt := hbk.lt
  have HO1 := Lib.hid (own_behindW H.out.own hg.2.2)
  have HG := Lib.hid hg
  clear hg hbk
  go_wp2_with (at_builtin; refine wpList_append_any _ rfl _ _ 23 rfl 0 5 i0 (.int .u8 0) 1 1 Tryz.underlying23 HI.out HZ0.out HZ1.out HZ2.out rfl (by decide) _ _ _ rfl HO1.out w1.heap.size A (txtL s).length c (bs (txtL s)) rfl HG.out.2.1 (bs_one _) (by unfold maxLen; omega) (by omega) (Nat.zero_le _) ?_; intro v2 w2 hown2 hg2 hv2; obtain ⟨A2, c2, rfl⟩ := own_slice hown2; have hend := wrote_end H.out HG.out.2.2 hown2 hg2 hv2; have c0 := hend.2.1; have f0 := hend.2.2.1; have hlt := hend.2.2.2; have HEND := Lib.hid hend.1; clear hend)
  go_end0
  exact ⟨rfl, HEND.out⟩
end Go.Proofs.YtbgnggkgmeagkaaGreatDoor
