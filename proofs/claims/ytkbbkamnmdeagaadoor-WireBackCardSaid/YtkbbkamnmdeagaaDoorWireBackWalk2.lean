/-
  The walk of the law WireBack where the number may be written. Condition: errors.errorType holds the handle of the type 'error'.
-/
import Derived.Test.YtkbbkamnmdeagaaDoorWireBackWalk
namespace Go.Proofs.YtkbbkamnmdeagaaDoor
open Go.RowKit

theorem wget_short (l : List UInt8) (s : Int) (h : getV l s = (0, 0, 8)) (A : Option Addr) (n c : Nat) (hn : n = l.length) (hcap : l.length ≤ c) (hm : l.length ≤ 140737488355328) (B : Nat) (w : World) (hr : Reads w B 1 A l.length (bs l)) :
    Calls Tryd.prog 21 #[.slice A n c, .int .i64 s] w fun e w' => e = .returned (.tuple #[.int .i64 0, .int .i64 0, .iface 113 (.int .i64 8)]) ∧ w = w' := by
  refine (wget_any l s A n c hn hcap hm B w hr).mono ?_
  rintro e w' ⟨he, hw⟩
  rw [h] at he
  exact ⟨he, hw⟩
theorem same_num (a : Nat) (h : a ≠ 0) (w : World) (hE : ErrType w) :
    Calls Tryd.prog 15 #[.iface 113 (.int .i64 (a : Nat)), .int .i64 (a : Nat)] w fun r w' => r = .returned (.bool true) ∧ Below w.heap.size w w' := by
  have := same_true a w hE
  rwa [errV_pos h] at this

set_option maxRecDepth 100000 in
set_option maxHeartbeats 4000000 in
theorem wireBack_ok (n s : Int) (hok : putOk n s 0) (l : List UInt8) (A : Option Addr) (c : Nat) (w : World) (hE : ErrType w) (hcap : l.length ≤ c) (hm : l.length ≤ 140737488351232) (hr : Reads w w.heap.size 1 A l.length (bs l)) :
    Calls Tryd.prog 5 #[.int .i64 n, .int .i64 s, .slice A l.length c] w fun e w' => e = .returned (.bool true) ∧ Below w.heap.size w w' := by
  obtain ⟨q, rfl⟩ := Int.eq_ofNat_of_zero_le hok.2.2.1
  obtain ⟨L1, hL1⟩ : ∃ L1, putN q s.toNat 0 = L1 := ⟨_, rfl⟩
  have hs1 : 1 ≤ s := hok.1
  have hs8 : s ≤ 8 := hok.2.1
  have hq31 : q ≤ 2147483647 := by have := hok.2.2.2.1; omega
  have hLp : putL (q : Int) s 0 = L1 := by rw [putL, if_pos hok, ← hL1]; rfl
  have hcut : ∀ i, i < L1.length → getV (L1.take i) s = (0, 0, 8) := by
    intro i hi
    have := getV_cut q s.toNat i (by omega) (by omega) hq31 (by rw [hL1]; exact hi)
    rwa [hL1, Int.toNat_of_nonneg (by omega)] at this
  have hall : getV (L1 ++ l) s = (q, L1.length, 0) := by
    have := getV_put q s.toNat l (by omega) (by omega) hq31
    rwa [hL1, Int.toNat_of_nonneg (by omega)] at this
  have hlen : L1.length ≤ 6 := by
    rw [← hL1]
    exact putN_len6 q s.toNat hq31
  have HOK := Lib.hid hok
  have HL := Lib.hid hLp
  have HCUT := Lib.hid hcut
  have HALL := Lib.hid hall
  have HM := Lib.hid hm
  clear hok hLp hcut hall hL1 hm
  go_enter Tryd.func5, Tryd.ntmps5
  go_wp2_with fail
  refine (wput_okL 1337 5 0 _ fact_put.1 fact_put.2 w).mono ?_
  rintro e w1 ⟨A1, c1, rfl, _, hc1, hg1, hb1⟩
  obtain ⟨b1, o1, rfl, hB1, hcl1⟩ := hg1.form (by decide)
  have f0 : w1.cell? ⟨b1, o1, none⟩ = some (.int .u8 31) := hcl1 0 _ rfl
  have f1 : w1.cell? ⟨b1, o1 + 1, none⟩ = some (.int .u8 154) := hcl1 1 _ rfl
  have f2 : w1.cell? ⟨b1, o1 + 2, none⟩ = some (.int .u8 10) := hcl1 2 _ rfl
  have hr1 : Reads w1 w1.heap.size 1 A l.length (bs l) := (hr.below hb1).more hb1.size
  have hE1 := hE.next hb1
  clear hg1 hcl1 hr hE
  simp only [List.length_cons, List.length_nil] at *
  go_wp2_with fail
  refine (wput_okL _ s 0 L1 HOK.out HL.out w1).mono ?_
  rintro e w2 ⟨A2, c2, rfl, hown2, hc2, hr2, hb2⟩
  have hE2 := hE1.next hb2
  clear f0 f1 f2
  go_wp2_with fail
  go_loopw [11] (fun i wr => ∃ k : Nat, k ≤ L1.length ∧ i = .int .i64 k ∧ Below w2.heap.size w2 wr) (fun i _ => L1.length - (intOf i).toNat)
  case atStart => exact ⟨0, Nat.zero_le _, rfl, Below.refl _ _⟩
  case round =>
    obtain ⟨k, hk, rfl, hbr⟩ := hrel
    have hEr := hE2.next hbr
    by_cases hlt : k < L1.length
    · have hkc : k ≤ c2 := by omega
      have hrx := (hr2.take (k := k) (by omega)).below hbr
      rw [bs_take] at hrx
      have hlk : k = (L1.take k).length := by rw [List.length_take]; omega
      have HLK := Lib.hid hlk
      clear hlk
      go_wp2_with fail
      refine (wget_short (L1.take k) s (HCUT.out k hlt) A2 _ c2 HLK.out (by rw [← HLK.out]; exact hkc) (by rw [← HLK.out]; omega) _ wr (by rw [← HLK.out]; exact hrx)).mono ?_
      rintro e w' ⟨rfl, rfl⟩
      clear hrx
      go_wp2_with fail
      refine (same_num 8 (by decide) wr hEr).mono ?_
      rintro e w' ⟨rfl, hb'⟩
      go_wp2_with fail
      go_roundw
      case rel => exact ⟨k + 1, by omega, by go_num, hbr.trans (hb'.mono hbr.size)⟩
      case measure => simp [intOf]; omega
    · have hkl : k = L1.length := by omega
      subst hkl
      have hownr := own_below hown2 hbr
      have hb1r := (hb2.trans (hbr.mono hb2.size))
      have hrr := hr1.below hb1r
      have hmm := HM.out
      clear hlt hk hr2 hown2
      go_wp2_with (at_builtin; refine wpList_join rfl _ _ rfl w1.heap.size _ _ _ rfl hownr w1.heap.size A l.length c (bs l) rfl hrr (bs_one l) (by omega) hb1r.size ?_; intro v3 w3 hown3 hb3)
      rw [← bs_append, ← List.length_append] at hown3
      obtain ⟨A3, c3, hv3, hc3, hg3⟩ := isBytes_of_own hown3
      rw [hv3]
      clear hown3 hv3
      have hlen3 : (L1 ++ l).length ≤ 140737488355328 := by rw [List.length_append]; omega
      have HC3 := Lib.hid hc3
      clear hc3
      refine (wget_okL (L1 ++ l) s q L1.length HALL.out A3 _ c3 rfl HC3.out hlen3 _ w3 hg3).mono ?_
      rintro e w' ⟨rfl, rfl⟩
      have hb13 := hb1r.trans hb3
      have hr3 := (hr1.below hb13).more hb13.size
      have hb03 := hb1.trans (hb13.mono hb1.size)
      replace hm : l.length ≤ 140737488355328 := by omega
      clear HC3 HALL HCUT HL HOK hg3 hownr hrr hlen3 hr1 hb1r hb3 hb13 hbr hEr hb2 hmm HM hE1 hE2
      go_wp2_with fail

      -- the bytes as they came
      cases hE2 : (getV l s).2.2 with
      | succ k =>
        refine (wget_err l s k hE2 A _ c rfl hcap hm _ _ hr3).mono ?_
        rintro e w' ⟨N, U, rfl, rfl⟩
        go_wp2
        go_ret
        exact ⟨rfl, hb03⟩
      | zero =>
        obtain ⟨N, U, hV⟩ : ∃ N U, getV l s = (N, U, 0) := ⟨_, _, by rw [← hE2]⟩
        obtain ⟨c0, P, hB⟩ := back_of l s N U hV
        have HV := Lib.hid hV
        have HB := Lib.hid hB
        have hU1 := hB.U1
        have hUl := hB.Ul
        have hN31 := hB.N31
        have hs1 := hB.s1
        have hs8 := hB.s8
        have hP2 := hB.P2
        have hP256 := hB.P256
        have hc0 := hB.c255
        have hUc : U ≤ c := by omega
        clear hE2 hV hB
        refine (wget_okL l s N U HV.out A _ c rfl hcap hm _ _ hr3).mono ?_
        rintro e w' ⟨rfl, rfl⟩
        go_wp2_with fail
        go_loop [22, 23] (fun x i => ∃ k : Nat, (k : Int) ≤ s ∧ i = .int .i64 k ∧ x = .int .i64 ((2 : Int) ^ k)) (fun _ i => s.toNat - (intOf i).toNat)
        case atStart => exact ⟨0, by omega, rfl, rfl⟩
        case round =>
          obtain ⟨k, hk, rfl, rfl⟩ := hrel
          by_cases hlt : (k : Int) < s
          · have hb3 : (2 : Int) ^ k * 2 ≤ 512 := by
              have h1 : (2 : Int) ^ k ≤ 2 ^ 8 := ipow_le (by omega)
              omega
            have hb2 := ipow_pos k
            go_wp2_with fail
            go_round
            case rel => exact ⟨k + 1, by omega, by go_num, by rw [Int.pow_succ]⟩
            case measure => simp [intOf]; omega
          · have hks : k = s.toNat := by omega
            subst hks
            rw [HB.out.hP]
            have hat := HB.out.at0
            obtain ⟨b, off, rfl, hbB, hcell⟩ := (hr3).form (by omega)
            have h0 := hcell 0 _ hat
            rw [Nat.add_zero] at h0
            have hq0 : 0 ≤ (c0 : Int) / (P : Int) := Int.ediv_nonneg (by omega) (by omega)
            have hq1 : (c0 : Int) / (P : Int) ≤ 255 := Int.le_trans (Int.ediv_le_self _ (by omega)) (by omega)
            have hq2 : 0 ≤ (c0 : Int) / (P : Int) * (P : Int) := Int.mul_nonneg hq0 (by omega)
            have hq3 : (c0 : Int) / (P : Int) * (P : Int) ≤ 255 := by
              have h9 := HB.out.high
              have e9 : ((c0 / P * P : Nat) : Int) = (c0 : Int) / (P : Int) * (P : Int) := by simp
              omega
            have HK : Hid (putOk N s ((c0 : Int) / (P : Int) * (P : Int)) ∧ putL N s ((c0 : Int) / (P : Int) * (P : Int)) = l.take U) := by
              have e9 : ((c0 / P * P : Nat) : Int) = (c0 : Int) / (P : Int) * (P : Int) := by simp
              rw [← e9]
              exact ⟨HB.out.ok, HB.out.L⟩
            clear hat hk hlt
            have HR := Lib.hid hr3
            have HBB := Lib.hid hb03
            go_wp2_with fail
            refine (wput_okL _ _ _ _ HK.out.1 HK.out.2 _).mono ?_
            rintro e w5 ⟨A5, c5, rfl, _, hc5, hr5, hb5⟩
            go_wp2_with fail
            refine (wbig4 N hN31 w5).mono ?_
            rintro e w6 ⟨A6, c6, rfl, hc6, hr6, hb6⟩
            go_wp2_with fail
            refine (wread_any (beBytes 4 N) 4 A6 _ c6 rfl hc6 (by rw [beBytes_length]; decide) _ w6 hr6).mono ?_
            rintro e w' ⟨rfl, rfl⟩
            have e40 := (read4 N hN31).1
            have e4N := (read4 N hN31).2
            rw [e40, e4N, errV_zero]
            clear e40 e4N
            have hb56 := hb5.trans (hb6.mono hb5.size)
            have hrb := (HR.out.take hUl).below (hb56.mono (Nat.le_refl _))
            have hlu : (l.take U).length = U := by rw [List.length_take]; omega
            have k1 : ∀ m, (convert 22 9 (.slice A5 U c5)).run Tryd.prog (w6.drewN m) = .ok (.string ⟨(l.take U).toArray⟩) (w6.drewN m) := by
              intro m
              have := run_str ((hr5.below hb6).drewN m) c5
              rwa [hlu] at this
            rw [bs_take] at hrb
            have k2 : ∀ m, (convert 22 9 (.slice (some ⟨b, off, none⟩) U c)).run Tryd.prog (w6.drewN m) = .ok (.string ⟨(l.take U).toArray⟩) (w6.drewN m) := by
              intro m
              have := run_str (l := l.take U) (by rw [hlu]; exact hrb.drewN m) c
              rwa [hlu] at this
            clear hrb
            have HBF := Lib.hid (HBB.out.trans (hb56.mono HBB.out.size))
            clear hlu hb5 hb6 hb56 hr5 hr6 HR HBB hcell h0
            go_wp2_with fail
            go_quiet (fail)
            go_wp2
            go_ret
            exact ⟨rfl, below_drewN HBF.out _⟩


theorem wireBack_walk (n s : Int) (l : List UInt8) (A : Option Addr) (c : Nat) (w : World) (hE : ErrType w) (hcap : l.length ≤ c) (hm : l.length ≤ 140737488351232) (hr : Reads w w.heap.size 1 A l.length (bs l)) :
    Calls Tryd.prog 5 #[.int .i64 n, .int .i64 s, .slice A l.length c] w fun e w' => e = .returned (.bool true) ∧ Below w.heap.size w w' := by
  by_cases h : putOk n s 0
  · exact wireBack_ok n s h l A c w hE hcap hm hr
  · exact wireBack_bad n s h l A c w hcap hm hr
end Go.Proofs.YtkbbkamnmdeagaaDoor
