/-
  The walk of the law HeadPlays: it returns true, and nothing that was in memory turns. Condition: the texts' and the bytes' lengths; errors.errorType reads as laid.
-/
import Derived.Test.YtkbbkamnmdeagaaDoorMHeadPlays24
import Derived.Test.YtkbbkamnmdeagaaDoorMHeadPlays25
import Derived.Test.YtkbbkamnmdeagaaDoorMHeadPlays12
import Derived.Test.YtkbbkamnmdeagaaDoorMHeadPlays19
import Derived.Deep.CutRange
import Derived.Deep.LoopGhost
import Derived.Deep.CutBlock
namespace Go.Proofs.YtkbbkamnmdeagaaDoor
open Go.RowKit
attribute [local go_sem ↓] Go.wp_at_zero Go.wp_at_succ

theorem cell_behindP {w w1 : World} (hb : Below w.heap.size w w1) {p : Addr} {v : Value} (h : w.cell? p = some v) : w1.cell? p = some v := (hb.cell (World.block_lt_of_cell? w p h)).trans h

set_option maxRecDepth 100000 in
set_option maxHeartbeats 16000000 in
theorem headPlays_walk (m : Int) (st : List (List Fld)) (SA : Option Addr) (sc : Nat) (zs : List Int) (ZA : Option Addr) (zc : Nat) (bk : List (List UInt8)) (BA : Option Addr) (bc : Nat) (w : World) (hE : ErrType w) (hls : ∀ r ∈ st, (∀ f ∈ r, fOk f) ∧ r.length ≤ 140737488355328) (hg : FGrid w SA st) (hsl : st.length ≤ 140737488355328) (hz : Reads w w.heap.size 1 ZA zs.length (nums zs)) (hzl : zs.length ≤ 140737488355328) (hbl : ∀ r ∈ bk, r.length ≤ 140737488355328) (hgb : BGrid w BA bk) (hbk : bk.length ≤ 140737488355328) :
    Calls Tryd.prog 12 #[.int .i64 m, .slice SA st.length sc, .slice ZA zs.length zc, .slice BA bk.length bc] w fun e w' => e = .returned (.bool true) ∧ Below w.heap.size w w' := by
  have HEE := Lib.hid hE
  have HLS := Lib.hid hls
  have HG := Lib.hid hg
  have HZ := Lib.hid hz
  have HBL := Lib.hid hbl
  have HGB := Lib.hid hgb
  clear hE hls hg hz hbl hgb
  go_enter Tryd.func12, Tryd.ntmps12
  by_cases hbad : m < 0 ∨ 4096 < m
  · have HBAD := Lib.hid hbad
    by_cases h0 : m < 0
    · have i0 := decide_eq_true h0
      clear hbad
      go_wp2_with fail
      refine (cnew_no m HBAD.out _).mono ?_
      rintro e w' ⟨rfl, rfl⟩
      have hst := same_true 1 _ HEE.out
      rw [errV_pos (by decide)] at hst
      have HST := Lib.hid hst
      clear hst
      go_wp2_with fail
      refine HST.out.mono ?_
      rintro e w2 ⟨rfl, hb2⟩
      go_wp2
      go_ret
      exact ⟨rfl, hb2⟩
    · have h4 : 4096 < m := by omega
      have i0 := decide_eq_false h0
      have i4 := decide_eq_true h4
      clear hbad
      go_wp2_with fail
      refine (cnew_no m HBAD.out _).mono ?_
      rintro e w' ⟨rfl, rfl⟩
      have hst := same_true 1 _ HEE.out
      rw [errV_pos (by decide)] at hst
      have HST := Lib.hid hst
      clear hst
      go_wp2_with fail
      refine HST.out.mono ?_
      rintro e w2 ⟨rfl, hb2⟩
      go_wp2
      go_ret
      exact ⟨rfl, hb2⟩
  · obtain ⟨max, rfl⟩ := Int.eq_ofNat_of_zero_le (show 0 ≤ m by omega)
    have hmax : max ≤ 4096 := by omega
    have HMAX := Lib.hid hmax
    have hx0 : ¬ ((max : Nat) : Int) < 0 := by omega
    have hx4 : ¬ (4096 : Int) < ((max : Nat) : Int) := by omega
    have i0 := decide_eq_false hx0
    have i4 := decide_eq_false hx4
    have i5 : decide (4096 < max) = false := decide_eq_false (by omega)
    clear hbad
    go_wp2_with fail
    refine (dnew_yes max HMAX.out w).mono ?_
    rintro e w1 ⟨C, g, h, rfl, h1, ht, hb1, hC, hg1, hh, hne, hnC⟩
    have H1 := Lib.hid h1
    have HT := Lib.hid ht
    have HB1 := Lib.hid hb1
    have HN := Lib.hid (And.intro hC (And.intro hg1 (And.intro hh (And.intro hne hnC))))
    clear h1 ht hb1 hC hg1 hh hne hnC
    have hst := same_true 0 _ (HEE.out.next HB1.out)
    rw [errV_zero] at hst
    have HST := Lib.hid hst
    clear hst
    go_wp2_with fail
    refine HST.out.mono ?_
    rintro e w2 ⟨rfl, hb2⟩
    have HB2 := Lib.hid hb2
    clear hb2 HST
    go_wp2_with fail
    refine (rnewC_any max HMAX.out w2).mono ?_
    rintro e w3 ⟨rfl, hr3, hb3⟩
    have hH := hp_new HMAX.out (H1.out.below HB2.out) (itab_keep HT.out (Keep.of_below (S := fun _ => False) HB2.out) (fun h => h)) (HB1.out.trans (HB2.out.mono HB1.out.size)) HN.out.1 HN.out.2.1 HN.out.2.2.1 HN.out.2.2.2.1 HN.out.2.2.2.2 hr3 hb3
    clear hr3 hb3 H1 HT HN HB1
    generalize w2.heap.size = M at hH ⊢
    have HH := Lib.hid hH
    clear hH HB2 hx0 hx4 i0 i4 i5
    go_upto_block 0 with fail
    go_cut [14] from 48 to 137 (fun _ wx => ∃ A c Sv xs mx ps RA rc RSv, HP w wx C g h M max A c Sv xs mx ps RA rc RSv xs mx ps)
    case first =>
      go_wp2_with fail
      go_loopg [14] 12 (fun n i wr => ∃ k : Nat, n + k = 12 ∧ i = .int .i64 (k : Int) ∧ Hid (∃ A c Sv xs mx ps RA rc RSv, HP w wr C g h M max A c Sv xs mx ps RA rc RSv xs mx ps ∧ ps.length ≤ k))
      case atStart => exact ⟨0, rfl, rfl, ⟨_, _, _, _, _, _, _, _, _, HH.out, by simp⟩⟩
      case round =>
        clear HH
        obtain ⟨k, hk, rfl, HI⟩ := hrel
        obtain ⟨A, c, Sv, xs, mx, ps, RA, rc, RSv, hP, hps⟩ := HI.out
        have HP0 := Lib.hid hP
        clear hP HI
        by_cases hlt : k < st.length
        · by_cases h12 : k < 12
          · have h12i : ((k : Nat) : Int) < 12 := by omega
            have h12d := decide_eq_true h12i
            generalize wr = wo at *
            go_upto_region 12 with fail
            go_cut [66] from 58 to 66 (fun b wx => wx = wo ∧ b = .bool (decide (k < zs.length ∧ k % 2 = 1)))
            case first =>
              by_cases hkz : k < zs.length
              · rcases Nat.mod_two_eq_zero_or_one k with ho | ho
                · have e1 : decide (k < zs.length ∧ k % 2 = 1) = false := by simp [ho]
                  have e3 : ((k : Nat) : Int) % 2 = 0 := by omega
                  have e2 : ((k : Nat) : Int).tmod 2 = 0 := by rw [Int.tmod_eq_emod_of_nonneg (by omega)]; omega
                  go_wp2
                  go_meet
                  exact ⟨rfl, by rw [e1]⟩
                · have e1 : decide (k < zs.length ∧ k % 2 = 1) = true := by simp [ho, hkz]
                  have e3 : ((k : Nat) : Int) % 2 = 1 := by omega
                  have e2 : ((k : Nat) : Int).tmod 2 = 1 := by rw [Int.tmod_eq_emod_of_nonneg (by omega)]; omega
                  go_wp2
                  go_meet
                  exact ⟨rfl, by rw [e1]⟩
              · have e1 : decide (k < zs.length ∧ k % 2 = 1) = false := by simp [hkz]
                go_wp2
                go_meet
                exact ⟨rfl, by rw [e1]⟩
            case rest =>
              obtain ⟨rfl, rfl⟩ := hcut
              generalize wc = wo at *
              go_upto_if 66 with fail
              go_cut [11, 12] from 66 to 94 (fun _ _ wx => ∃ A c Sv xs mx ps RA rc RSv, HP w wx C g h M max A c Sv xs mx ps RA rc RSv xs mx ps ∧ ps.length ≤ k + 1)
              case first =>
                by_cases hodd : k < zs.length ∧ k % 2 = 1
                · have e1 := decide_eq_true hodd
                  rw [e1]
                  clear e1
                  obtain ⟨hkz, ho⟩ := hodd
                  obtain ⟨zb, zo, u, rfl, hzb, hzu, hzc0⟩ := Reads.elem HZ.out hkz
                  obtain ⟨z, hzq⟩ : ∃ z, zs[k] = z := ⟨_, rfl⟩
                  have huz : u = .int .i64 z := by
                    rw [← hzq]
                    simpa [nums, List.getElem?_eq_getElem hkz] using hzu.symm
                  subst huz
                  have HZB := Lib.hid hzb
                  have HZC := Lib.hid hzc0
                  have hzc := (HP0.out.bw.cell (p := ⟨zb, zo + k, none⟩) hzb).trans hzc0
                  clear hzb hzc0 hzu hzq
                  by_cases h0 : 0 ≤ z
                  · by_cases h4 : z ≤ 4096
                    · obtain ⟨p, rfl⟩ := Int.eq_ofNat_of_zero_le h0
                      have hp4 : p ≤ 4096 := by omega
                      have i4 := decide_eq_true h4
                      have i0 := decide_eq_true h0
                      have i5 := decide_eq_true hp4
                      have HP4 := Lib.hid hp4
                      go_wp2_with fail
                      refine (hp_rres HP0.out p HP4.out (by omega)).mono ?_
                      rintro e w4 ⟨rfl, RSv2, h4'⟩
                      have H4 := Lib.hid h4'
                      clear h4' hzc
                      have hzc := (H4.out.bw.cell (p := ⟨zb, zo + k, none⟩) HZB.out).trans HZC.out
                      go_wp2_with fail
                      refine (hp_res H4.out p HP4.out (by omega)).mono ?_
                      rintro e w5 ⟨rfl, A2, c2, Sv2, h5⟩
                      have H5 := Lib.hid h5
                      clear h5 hzc
                      have hst := same_true 0 _ (HEE.out.next H5.out.bw)
                      rw [errV_zero] at hst
                      have HST := Lib.hid hst
                      clear hst
                      go_wp2_with fail
                      refine HST.out.mono ?_
                      rintro e w6 ⟨rfl, hbE⟩
                      have H6 := Lib.hid (H5.out.next hbE)
                      clear hbE HST
                      go_wp2
                      go_meet
                      exact ⟨A2, c2, Sv2, _, _, _, RA, rc, RSv2, H6.out, by simp; omega⟩
                    · have HZZ := Lib.hid (show z < 0 ∨ 4096 < z by omega)
                      have i4 := decide_eq_false h4
                      have i0 := decide_eq_true h0
                      go_wp2_with fail
                      refine (hp_resno HP0.out z HZZ.out).mono ?_
                      rintro e w4 ⟨rfl, rfl⟩
                      have hst := same_true 1 _ (HEE.out.next HP0.out.bw)
                      rw [errV_pos (by decide)] at hst
                      have HST := Lib.hid hst
                      clear hst
                      go_wp2_with fail
                      refine HST.out.mono ?_
                      rintro e w5 ⟨rfl, hbE⟩
                      have H5 := Lib.hid (HP0.out.next hbE)
                      clear hbE HST
                      go_wp2
                      go_meet
                      exact ⟨A, c, Sv, xs, mx, ps, RA, rc, RSv, H5.out, by omega⟩
                  · have HZZ := Lib.hid (show z < 0 ∨ 4096 < z by omega)
                    have i0 := decide_eq_false h0
                    go_wp2_with fail
                    refine (hp_resno HP0.out z HZZ.out).mono ?_
                    rintro e w4 ⟨rfl, rfl⟩
                    have hst := same_true 1 _ (HEE.out.next HP0.out.bw)
                    rw [errV_pos (by decide)] at hst
                    have HST := Lib.hid hst
                    clear hst
                    go_wp2_with fail
                    refine HST.out.mono ?_
                    rintro e w5 ⟨rfl, hbE⟩
                    have H5 := Lib.hid (HP0.out.next hbE)
                    clear hbE HST
                    go_wp2
                    go_meet
                    exact ⟨A, c, Sv, xs, mx, ps, RA, rc, RSv, H5.out, by omega⟩
                · have e1 := decide_eq_false hodd
                  rw [e1]
                  clear e1
                  go_wp2
                  go_meet
                  exact ⟨A, c, Sv, xs, mx, ps, RA, rc, RSv, HP0.out, by omega⟩
              case rest =>
                clear HP0 hps
                obtain ⟨A, c, Sv, xs, mx, ps, RA, rc, RSv, hP, hps⟩ := hcut
                obtain ⟨sb, so, Rl, d, rfl, hsb0, hrc0, hrr0⟩ := fgrid_row HG.out (Below.refl _ w) hlt
                obtain ⟨hlf, hlm⟩ := HLS.out st[k] (List.getElem_mem hlt)
                obtain ⟨l, hl⟩ : ∃ l, st[k] = l := ⟨_, rfl⟩
                rw [hl] at hlf hlm hrc0 hrr0
                have hrc := (hP.bw.cell (p := ⟨sb, so + k, none⟩) hsb0).trans hrc0
                have HRR := Lib.hid hrr0
                have HRC := Lib.hid hrc0
                have HSB := Lib.hid hsb0
                have HP0 := Lib.hid hP
                have HLF := Lib.hid hlf
                have HLM := Lib.hid hlm
                clear hl hlf hlm hP hrr0 hrc0 hsb0
                by_cases hE : saidE l = 0
                · have HE := Lib.hid hE
                  clear hE
                  go_wp2_with fail
                  refine (hp_rsaid HP0.out l HLF.out HLM.out (by omega) HE.out Rl _ d rfl (HRR.out.below HP0.out.bw)).mono ?_
                  rintro e w4 ⟨b, A1, n1, c1, RA2, rc2, rfl, hb, rfl, hc1, hbs, hrd, hnd, h4⟩
                  have H4 := Lib.hid h4
                  have HB := Lib.hid hb
                  have HRD := Lib.hid hrd
                  have HND := Lib.hid hnd
                  clear h4 hb hrd hnd hrc
                  have hrc := (H4.out.bw.cell (p := ⟨sb, so + k, none⟩) HSB.out).trans HRC.out
                  go_wp2_with fail
                  refine (hp_said H4.out l HLF.out HLM.out (by omega) HE.out Rl _ d rfl (HRR.out.below H4.out.bw) HRD.out HND.out).mono ?_
                  rintro e w5 ⟨A2, n2, c2, A3, c3, rfl, hn2, hc2, hr2, hr1, h5⟩
                  rw [← HB.out] at hn2 hr2
                  subst hn2
                  have H5 := Lib.hid h5
                  have HQ2 := Lib.hid hr2
                  have HQ1 := Lib.hid hr1
                  clear h5 hr2 hr1 hrc
                  have hst := same_true 0 _ (HEE.out.next H5.out.bw)
                  rw [errV_zero] at hst
                  have HST := Lib.hid hst
                  clear hst
                  go_wp2_with fail
                  refine HST.out.mono ?_
                  rintro e w6 ⟨rfl, hbE⟩
                  have H6 := Lib.hid (H5.out.next hbE)
                  have HR1 := Lib.hid ((HQ1.out.below hbE).more hbE.size)
                  have HR2 := Lib.hid ((HQ2.out.below hbE).more hbE.size)
                  clear hbE HST HQ1 HQ2 HRD HND H4
                  have hrcT := (H6.out.bw.cell (p := ⟨sb, so + k, none⟩) HSB.out).trans HRC.out
                  have HRT := Lib.hid ((HRR.out.below H6.out.bw).more H6.out.bw.size)
                  obtain ⟨W0, hW0⟩ : ∃ W0, w6 = W0 := ⟨_, rfl⟩
                  have x0 : ∀ z : WIn (fun w' => Below w6.heap.size w6 w'), z.w.cell? ⟨sb, so + k, none⟩ = some (.slice Rl l.length d) := fun z => cell_behindP z.h hrcT
                  have x1 : ∀ z : WIn (fun w' => Below w6.heap.size w6 w'), (convert 22 9 (.slice A1 b.length c1)).run Tryd.prog z.w = .ok (.string ⟨b.toArray⟩) z.w := fun z => run_str (HR1.out.below z.h) c1
                  have x2 : ∀ z : WIn (fun w' => Below w6.heap.size w6 w'), (convert 22 9 (.slice A2 b.length c2)).run Tryd.prog z.w = .ok (.string ⟨b.toArray⟩) z.w := fun z => run_str (HR2.out.below z.h) c2
                  have HW1 := Lib.hid (show ∀ z : WIn (fun w' => Below w6.heap.size w6 w'), Calls Tryd.prog 63 #[.slice Rl l.length d] z.w fun e w' => e = .returned (.int .i64 (wrap64 ((wt l : Nat) : Int))) ∧ Below z.w.heap.size z.w w' from fun z => weightW_any l HLF.out HLM.out Rl _ d rfl z.w ((HRT.out.below z.h).more z.h.size))
                  have HW2 := Lib.hid (show ∀ z : WIn (fun w' => Below w6.heap.size w6 w'), Calls Tryd.prog 54 #[.slice Rl l.length d] z.w fun e w' => e = .returned (.int .i64 (wrap64 ((wt l : Nat) : Int))) ∧ Below z.w.heap.size z.w w' from fun z => rweightW_any l HLF.out HLM.out Rl _ d rfl z.w ((HRT.out.below z.h).more z.h.size))
                  generalize wrap64 ((wt l : Nat) : Int) = WT at HW1 HW2
                  clear hrcT hW0
                  go_upto_region 23 with fail
                  refine quiet_in (fun w' => Below w6.heap.size w6 w') (by kernel_rfl) (by kernel_rfl) ?_ fun hne => ?_
                  · exact (Below.refl _ _).drew
                  repeat (first | go_big_quiet_skip | (go_big_quiet_want; go_big_quiet_op; go_big_quiet_on))
                  go_big_quiet_want
                  go_big_quiet_op
                  refine ⟨_, fun z => quiet_call (HW1.out z) (fun e w9 h9 => ⟨h9.1, z.h.trans (h9.2.mono z.h.size)⟩), ?_⟩
                  go_big_quiet_on
                  repeat (first | go_big_quiet_skip | (go_big_quiet_want; go_big_quiet_op; go_big_quiet_on))
                  go_big_quiet_want
                  go_big_quiet_op
                  refine ⟨_, fun z => quiet_call (HW2.out z) (fun e w9 h9 => ⟨h9.1, z.h.trans (h9.2.mono z.h.size)⟩), ?_⟩
                  go_big_quiet_on
                  repeat (first | go_big_quiet_skip | (go_big_quiet_want; go_big_quiet_op; go_big_quiet_on))
                  refine wpQuiet_nil ?_
                  intro w9 hw9
                  have hb9 : Below w6.heap.size w6 w9 := by
                    obtain ⟨z, hz⟩ := hw9
                    rw [hz]
                    exact z.h
                  have HZ9 := Lib.hid (H6.out.next hb9)
                  clear hne hw9 x0 x1 x2 HW1 HW2 hb9
                  go_wp2_with fail
                  go_roundg (gk - 1)
                  case measure => omega
                  case rel => exact ⟨k + 1, by omega, by go_num, ⟨_, _, _, _, _, _, _, _, _, HZ9.out, by simp⟩⟩
                · have HE := Lib.hid hE
                  clear hE
                  go_wp2_with fail
                  refine (rencC_fault M l HLF.out HLM.out HE.out Rl _ d rfl _ ((HRR.out.below HP0.out.bw).more HP0.out.bw.size)).mono ?_
                  rintro e w4 ⟨rfl, hb4⟩
                  have H4 := Lib.hid (HP0.out.next hb4)
                  clear hb4 hrc
                  have hrc := (H4.out.bw.cell (p := ⟨sb, so + k, none⟩) HSB.out).trans HRC.out
                  go_wp2_with fail
                  refine (cenc_fault C l HLF.out HLM.out HE.out Rl _ d rfl _ ((HRR.out.below H4.out.bw).more H4.out.bw.size)).mono ?_
                  rintro e w5 ⟨rfl, hb5⟩
                  have H5 := Lib.hid (H4.out.next hb5)
                  clear hb5 hrc
                  have hst := same_true 4 _ (HEE.out.next H5.out.bw)
                  rw [errV_pos (by decide)] at hst
                  have HST := Lib.hid hst
                  clear hst
                  go_wp2_with fail
                  refine HST.out.mono ?_
                  rintro e w6 ⟨rfl, hbE⟩
                  have H6 := Lib.hid (H5.out.next hbE)
                  clear hbE HST
                  have hrcT := (H6.out.bw.cell (p := ⟨sb, so + k, none⟩) HSB.out).trans HRC.out
                  have HRT := Lib.hid ((HRR.out.below H6.out.bw).more H6.out.bw.size)
                  obtain ⟨W0, hW0⟩ : ∃ W0, w6 = W0 := ⟨_, rfl⟩
                  have x0 : ∀ z : WIn (fun w' => Below w6.heap.size w6 w'), z.w.cell? ⟨sb, so + k, none⟩ = some (.slice Rl l.length d) := fun z => cell_behindP z.h hrcT
                  have x1 : ∀ z : WIn (fun w' => Below w6.heap.size w6 w'), (convert 22 9 (.slice none 0 0)).run Tryd.prog z.w = .ok (.string ⟨#[]⟩) z.w := fun z => run_str (l := []) (B := 0) Reads.none_ 0
                  have x2_ : ∀ z : WIn (fun w' => Below w6.heap.size w6 w'), (convert 22 9 (.slice none 0 0)).run Tryd.prog z.w = .ok (.string ⟨#[]⟩) z.w := fun z => run_str (l := []) (B := 0) Reads.none_ 0
                  have HW1 := Lib.hid (show ∀ z : WIn (fun w' => Below w6.heap.size w6 w'), Calls Tryd.prog 63 #[.slice Rl l.length d] z.w fun e w' => e = .returned (.int .i64 (wrap64 ((wt l : Nat) : Int))) ∧ Below z.w.heap.size z.w w' from fun z => weightW_any l HLF.out HLM.out Rl _ d rfl z.w ((HRT.out.below z.h).more z.h.size))
                  have HW2 := Lib.hid (show ∀ z : WIn (fun w' => Below w6.heap.size w6 w'), Calls Tryd.prog 54 #[.slice Rl l.length d] z.w fun e w' => e = .returned (.int .i64 (wrap64 ((wt l : Nat) : Int))) ∧ Below z.w.heap.size z.w w' from fun z => rweightW_any l HLF.out HLM.out Rl _ d rfl z.w ((HRT.out.below z.h).more z.h.size))
                  generalize wrap64 ((wt l : Nat) : Int) = WT at HW1 HW2
                  clear hrcT hW0
                  go_upto_region 23 with fail
                  refine quiet_in (fun w' => Below w6.heap.size w6 w') (by kernel_rfl) (by kernel_rfl) ?_ fun hne => ?_
                  · exact (Below.refl _ _).drew
                  repeat (first | go_big_quiet_skip | (go_big_quiet_want; go_big_quiet_op; go_big_quiet_on))
                  go_big_quiet_want
                  go_big_quiet_op
                  refine ⟨_, fun z => quiet_call (HW1.out z) (fun e w9 h9 => ⟨h9.1, z.h.trans (h9.2.mono z.h.size)⟩), ?_⟩
                  go_big_quiet_on
                  repeat (first | go_big_quiet_skip | (go_big_quiet_want; go_big_quiet_op; go_big_quiet_on))
                  go_big_quiet_want
                  go_big_quiet_op
                  refine ⟨_, fun z => quiet_call (HW2.out z) (fun e w9 h9 => ⟨h9.1, z.h.trans (h9.2.mono z.h.size)⟩), ?_⟩
                  go_big_quiet_on
                  repeat (first | go_big_quiet_skip | (go_big_quiet_want; go_big_quiet_op; go_big_quiet_on))
                  refine wpQuiet_nil ?_
                  intro w9 hw9
                  have hb9 : Below w6.heap.size w6 w9 := by
                    obtain ⟨z, hz⟩ := hw9
                    rw [hz]
                    exact z.h
                  have HZ9 := Lib.hid (H6.out.next hb9)
                  clear hne hw9 x0 x1 x2_ HW1 HW2 hb9
                  go_wp2_with fail
                  go_roundg (gk - 1)
                  case measure => omega
                  case rel => exact ⟨k + 1, by omega, by go_num, ⟨_, _, _, _, _, _, _, _, _, HZ9.out, by omega⟩⟩
          · have h12i : ¬ ((k : Nat) : Int) < 12 := by omega
            have h12d := decide_eq_false h12i
            go_wp2
            go_meet
            exact ⟨A, c, Sv, xs, mx, ps, RA, rc, RSv, HP0.out⟩
        · go_wp2
          go_meet
          exact ⟨A, c, Sv, xs, mx, ps, RA, rc, RSv, HP0.out⟩
    case rest =>
      obtain ⟨A, c, Sv, xs, mx, ps, RA, rc, RSv, hP⟩ := hcut
      have HQS := Lib.hid (hP.hear HMAX.out)
      clear hP HH
      generalize wc = ws at *
      go_wp2_with fail
      go_loopg [19] 12 (fun n i wr => ∃ k : Nat, n + k = 12 ∧ i = .int .i64 (k : Int) ∧ Hid ((∃ A c ys my RA rc, HQ w wr C h M max A c ys my RA rc ys my) ∨ HX w wr C M))
      case atStart => exact ⟨0, rfl, rfl, .inl ⟨_, _, _, _, _, _, HQS.out⟩⟩
      case round =>
        clear HQS
        obtain ⟨k, hk, rfl, HI⟩ := hrel
        have hbr : Below w.heap.size w wr := by
          rcases HI.out with ⟨_, _, _, _, _, _, h⟩ | h
          · exact h.bw
          · exact h.bw
        have HBR := Lib.hid hbr
        clear hbr
        by_cases hlt : k < bk.length
        · by_cases h12 : k < 12
          · have h12i : ((k : Nat) : Int) < 12 := by omega
            have h12d := decide_eq_true h12i
            obtain ⟨bb, bo, R, d, rfl, hbb, hrc0, hcap, hrr0⟩ := bgrid_row HGB.out (Below.refl _ w) hlt
            have hlm := HBL.out bk[k] (List.getElem_mem hlt)
            obtain ⟨b, hb⟩ : ∃ b, bk[k] = b := ⟨_, rfl⟩
            rw [hb] at hlm hrc0 hrr0 hcap
            have hrc := (HBR.out.cell (p := ⟨bb, bo + k, none⟩) hbb).trans hrc0
            have HRB := Lib.hid hrr0
            have HRC := Lib.hid hrc0
            have HBB := Lib.hid hbb
            have HLB := Lib.hid hlm
            have hbw := Nat.lt_of_lt_of_le hbb HBR.out.size
            clear hb hlm hrr0 hbb hbw
            rcases HI.out with ⟨A, c, ys, my, RA, rc, hQ⟩ | hX
            · have HQ0 := Lib.hid hQ
              clear hQ HI
              by_cases hbe : b = []
              · subst hbe
                simp only [List.length_nil] at hrc hcap
                clear hrc0 HRC HRB
                go_wp2_with fail
                refine (rcdecode_nil HQ0.out.r R d).mono ?_
                rintro e w2 ⟨rfl, rfl⟩
                go_wp2_with fail
                refine (cdecode_nil HQ0.out.i R d).mono ?_
                rintro e w2 ⟨rfl, hd⟩
                obtain ⟨A2, c2, h2⟩ := HQ0.out.ours hd
                have H2 := Lib.hid h2
                clear h2 hd hrc
                have hst := same_true 0 _ (HEE.out.next H2.out.bw)
                rw [errV_zero] at hst
                have HST := Lib.hid hst
                clear hst
                go_wp2_with fail
                refine HST.out.mono ?_
                rintro e w3 ⟨rfl, hbE⟩
                have H3 := Lib.hid (H2.out.next hbE)
                clear hbE HST
                have hsf := same_fields [] (by decide) none none _ _ 0 0 rfl rfl w3 Reads.none_ Reads.none_
                have HSF := Lib.hid hsf
                clear hsf
                go_wp2_with fail
                refine HSF.out.mono ?_
                rintro e w4 ⟨rfl, hb4⟩
                have H4 := Lib.hid (H3.out.next hb4)
                clear hb4 HSF
                go_wp2_with fail
                go_roundg (gk - 1)
                case measure => omega
                case rel => exact ⟨k + 1, by omega, by go_num, .inl ⟨_, _, _, _, _, _, H4.out⟩⟩
              · clear hrc0
                obtain ⟨r, hr⟩ : ∃ r, heard max ys my [] b = r := ⟨_, rfl⟩
                have HH := Lib.hid hr
                have HBE := Lib.hid hbe
                clear hr hbe
                go_wp2_with fail
                refine (hq_rdec HQ0.out b HBE.out R _ d rfl hcap HLB.out (HRB.out.below HQ0.out.bw) r HH.out).mono ?_
                rintro e w2 (⟨h0, A2, n2, c2, RA2, rc2, rfl, hn2, hrd, hnd, hQ2⟩ | ⟨h0, rfl, hQb⟩)
                · have H2 := Lib.hid hQ2
                  have H0 := Lib.hid h0
                  have HRD := Lib.hid hrd
                  have HND := Lib.hid hnd
                  have HN2 := Lib.hid hn2
                  clear hQ2 h0 hrd hnd hrc hn2
                  have hrc := (H2.out.bw.cell (p := ⟨bb, bo + k, none⟩) HBB.out).trans HRC.out
                  go_wp2_with fail
                  refine (hq_dec H2.out b HBE.out R _ d rfl hcap HLB.out (HRB.out.below H2.out.bw) r HH.out H0.out HRD.out HND.out).mono ?_
                  rintro e w3 ⟨A3, n3, c3, A4, c4, rfl, hn3, hll, hr3, hrB, hQ3⟩
                  have H3 := Lib.hid hQ3
                  have HR3 := Lib.hid hr3
                  have HRB3 := Lib.hid hrB
                  have HN3 := Lib.hid hn3
                  have HLL := Lib.hid hll
                  clear hQ3 hr3 hrB hrc hn3 hll
                  have hst := same_true 0 _ (HEE.out.next H3.out.bw)
                  rw [errV_zero] at hst
                  have HST := Lib.hid hst
                  clear hst
                  go_wp2_with fail
                  refine HST.out.mono ?_
                  rintro e w4 ⟨rfl, hbE⟩
                  have H4 := Lib.hid (H3.out.next hbE)
                  have hra := (HR3.out.below hbE).more hbE.size
                  have hrb := (HRB3.out.below hbE).more hbE.size
                  rw [HN3.out] at hra
                  rw [HN2.out] at hrb
                  have hsf := same_fields r.l HLL.out A3 A2 n3 n2 c3 c2 HN3.out HN2.out w4 hra hrb
                  have HSF := Lib.hid hsf
                  clear hsf hra hrb hbE HST
                  go_wp2_with fail
                  refine HSF.out.mono ?_
                  rintro e w5 ⟨rfl, hb5⟩
                  have H5 := Lib.hid (H4.out.next hb5)
                  clear hb5 HSF
                  go_wp2_with fail
                  go_roundg (gk - 1)
                  case measure => omega
                  case rel => exact ⟨k + 1, by omega, by go_num, .inl ⟨_, _, _, _, _, _, H5.out⟩⟩
                · have HB2 := Lib.hid hQb
                  have H0 := Lib.hid h0
                  clear hQb h0 hrc
                  obtain ⟨E, hE⟩ : ∃ E, r.e = E := ⟨_, rfl⟩
                  have HEQ := Lib.hid hE
                  rw [hE]
                  clear hE
                  have hrc := (HB2.out.bw.cell (p := ⟨bb, bo + k, none⟩) HBB.out).trans HRC.out
                  obtain ⟨ev, hev⟩ : ∃ ev, errV E = ev := ⟨_, rfl⟩
                  have HEV := Lib.hid hev
                  clear hev
                  go_wp2_with fail
                  refine (hqb_dec HB2.out b HBE.out R _ d rfl hcap HLB.out (HRB.out.below HB2.out.bw) r HH.out H0.out).mono ?_
                  rintro e w3 ⟨he, hX⟩
                  rw [HEQ.out, HEV.out] at he
                  subst he
                  have H3 := Lib.hid hX
                  clear hX hrc
                  have hst := same_true E _ (HEE.out.next H3.out.bw)
                  rw [HEV.out] at hst
                  have HST := Lib.hid hst
                  clear hst
                  go_wp2_with fail
                  refine HST.out.mono ?_
                  rintro e w4 ⟨rfl, hbE⟩
                  have H4 := Lib.hid (H3.out.next hbE)
                  clear hbE HST
                  have hsf := same_fields [] (by decide) none none _ _ 0 0 rfl rfl w4 Reads.none_ Reads.none_
                  have HSF := Lib.hid hsf
                  clear hsf
                  go_wp2_with fail
                  refine HSF.out.mono ?_
                  rintro e w5 ⟨rfl, hb5⟩
                  have H5 := Lib.hid (H4.out.next hb5)
                  clear hb5 HSF
                  go_wp2_with fail
                  go_roundg (gk - 1)
                  case measure => omega
                  case rel => exact ⟨k + 1, by omega, by go_num, .inr H5.out⟩
            · clear HI hrc0
              obtain ⟨⟨q1, q2, q3, q4, hbi⟩, ⟨a0, a1, a2, a3, a4, a5, hbr⟩, hbw⟩ := hX
              have HX0 := Lib.hid (show HX w wr C M from ⟨⟨q1, q2, q3, q4, hbi⟩, ⟨a0, a1, a2, a3, a4, a5, hbr⟩, hbw⟩)
              have HI1 := Lib.hid hbi
              have HI2 := Lib.hid hbr
              clear hbi hbr hbw
              go_wp2_with fail
              refine (rcdecode_bad HI2.out R _ d).mono ?_
              rintro e w2 ⟨rfl, rfl⟩
              go_wp2_with fail
              refine (cdecode_bad HI1.out R _ d).mono ?_
              rintro e w2 ⟨rfl, rfl⟩
              clear hrc
              have hst := same_true 6 _ (HEE.out.next HX0.out.bw)
              rw [errV_pos (by decide)] at hst
              have HST := Lib.hid hst
              clear hst
              go_wp2_with fail
              refine HST.out.mono ?_
              rintro e w3 ⟨rfl, hbE⟩
              have H3 := Lib.hid (HX0.out.next hbE)
              clear hbE HST
              have hsf := same_fields [] (by decide) none none _ _ 0 0 rfl rfl w3 Reads.none_ Reads.none_
              have HSF := Lib.hid hsf
              clear hsf
              go_wp2_with fail
              refine HSF.out.mono ?_
              rintro e w4 ⟨rfl, hb4⟩
              have H4 := Lib.hid (H3.out.next hb4)
              clear hb4 HSF
              go_wp2_with fail
              go_roundg (gk - 1)
              case measure => omega
              case rel => exact ⟨k + 1, by omega, by go_num, .inr H4.out⟩
          · have h12i : ¬ ((k : Nat) : Int) < 12 := by omega
            have h12d := decide_eq_false h12i
            go_wp2
            go_ret
            exact ⟨rfl, HBR.out⟩
        · go_wp2
          go_ret
          exact ⟨rfl, HBR.out⟩
end Go.Proofs.YtkbbkamnmdeagaaDoor
