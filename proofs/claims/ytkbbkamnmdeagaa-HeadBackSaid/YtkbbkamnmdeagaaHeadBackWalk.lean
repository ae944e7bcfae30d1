/-
  The walk of the law HeadBack: it returns true, and nothing that was in memory turns. Condition: the fields' texts' lengths.
-/
import Derived.Test.YtkbbkamnmdeagaaHb
import Derived.Test.YtkbbkamnmdeagaaOpen5
import Derived.Deep.CutBlock
namespace Go.Proofs.Ytkbbkamnmdeagaa
open Go.RowKit
attribute [local go_sem ↓] Go.wp_at_zero Go.wp_at_succ

def factF : List Fld := [([97], [98])]
theorem factF_said : saidE factF = 0 := by kernel_rfl
theorem factF_ok : ∀ f ∈ factF, fOk f := by
  intro f hf
  have e : f = ([97], [98]) := by simpa [factF] using hf
  subst e
  exact ⟨by decide, by decide⟩
theorem new4096 (w : World) :
    Calls Try.prog 18 #[.int .i64 4096] w fun e w' => ∃ C g h, e = .returned (.tuple #[.pointer (some ⟨C, 0, none⟩), .nilIface]) ∧ COut w' C g none 0 (.slice none 0 0) [] 4096 [] ∧ CIn w' C h none 0 [] 4096 4096 false ∧
      Below w.heap.size w w' ∧ w.heap.size ≤ C ∧ w.heap.size ≤ g ∧ w.heap.size ≤ h := cnew_yes 4096 (by decide) w
theorem fact_list (W : World) : Reads (W.alloc (.cells #[.string ⟨#[97]⟩, .string ⟨#[98]⟩] 40)) (W.alloc (.cells #[.string ⟨#[97]⟩, .string ⟨#[98]⟩] 40)).heap.size 2 (some ⟨W.heap.size, 0, none⟩) factF.length (fvs factF) := by
  have h := fld_tmp W ([97], [98])
  have h2 : Reads (W.alloc (.cells #[.string ⟨#[97]⟩, .string ⟨#[98]⟩] 40)) (W.heap.size + 1) 2 (some ⟨W.heap.size, 0, none⟩) 1 [.string ⟨#[97]⟩, .string ⟨#[98]⟩] := h
  have e : fvs factF = [.string ⟨#[97]⟩, .string ⟨#[98]⟩] := rfl
  rw [e]
  exact h2.more (by simp)

set_option maxRecDepth 100000 in
set_option maxHeartbeats 8000000 in
theorem headBack_walk (m : Int) (st : List (List Fld)) (SA : Option Addr) (sc : Nat) (zs : List Int) (ZA : Option Addr) (zc : Nat) (w : World) (hls : ∀ r ∈ st, (∀ f ∈ r, fOk f) ∧ r.length ≤ 140737488355328) (hg : FGrid w SA st) (hsl : st.length ≤ 140737488355328) (hz : Reads w w.heap.size 1 ZA zs.length (nums zs)) (hzl : zs.length ≤ 140737488355328) :
    Calls Try.prog 6 #[.int .i64 m, .slice SA st.length sc, .slice ZA zs.length zc] w fun e w' => e = .returned (.bool true) ∧ Below w.heap.size w w' := by
  have HLS := Lib.hid hls
  have HG := Lib.hid hg
  have HZ := Lib.hid hz
  clear hls hg hz
  go_enter Try.func6, Try.ntmps6
  go_wp2_with fail
  refine (new4096 w).mono ?_
  rintro e w1 ⟨C, g, h1, rfl, ho1, -, hb1, hC, hg1, -⟩
  have HO1 := Lib.hid ho1
  have HB1 := Lib.hid hb1
  have HS1 := Lib.hid (And.intro hC hg1)
  clear ho1 hb1 hC hg1
  go_wp2_with fail
  refine (new4096 w1).mono ?_
  rintro e w2 ⟨D, g2, h, rfl, -, hi2, hb2, hD, -, hh⟩
  have hH := hb_new (by decide) HO1.out HB1.out HS1.out.1 HS1.out.2 hi2 hb2 hD hh
  have HH := Lib.hid hH
  have HB2 := Lib.hid (HB1.out.trans (hb2.mono HB1.out.size))
  clear hH hi2 hb2 hD hh
  go_wp2_with fail
  obtain ⟨W3, hW3⟩ : ∃ W3, w2.alloc (.cells #[.string ⟨#[97]⟩, .string ⟨#[98]⟩] 40) = W3 := ⟨_, rfl⟩
  have hr3 := fact_list w2
  have hb3 : Below w2.heap.size w2 (w2.alloc (.cells #[.string ⟨#[97]⟩, .string ⟨#[98]⟩] 40)) := (Below.refl _ _).alloc (Nat.le_refl _) _
  rw [hW3] at hr3 hb3 ⊢
  have hH3 := HH.out.next hb3
  refine (hb_said hH3 factF factF_ok (by decide) (by decide) factF_said _ _ _ rfl hr3 (fun ad e _ ho => by cases e; have := HH.out.co.lt _ ho; simp at this)).mono ?_
  rintro e w4 ⟨b, A2, c2, A3, c3, B, rfl, hM⟩
  have HM := Lib.hid hM
  clear hr3 hb3 hH3 hM hW3
  go_wp2_with fail
  refine (hb_heard HM.out).mono ?_
  rintro e w5 ⟨A4, c4, A5, c5, rfl, hrow, hH5⟩
  have HB5 := Lib.hid hH5.bw
  have hrd := reads_own hrow
  obtain ⟨lb, lo, rfl, hlb, hcl⟩ := reads_fld hrd (by decide)
  obtain ⟨e0, e1⟩ := hcl 0 (by decide)
  have e2 : w5.cell? ⟨lb, lo + 1, none⟩ = some (.string ⟨#[98]⟩) := by simpa [factF] using e1
  clear e0 e1 hcl hrd hrow hH5 HM HH HS1 HO1 HB1 HB2
  go_upto_region 9 with fail
  clear e2 hlb
  by_cases hbad : m < 0 ∨ 4096 < m
  · have HBAD := Lib.hid hbad
    clear hbad
    go_wp2_with fail
    refine (cnew_no m HBAD.out _).mono ?_
    rintro e w' ⟨rfl, rfl⟩
    go_wp2_with fail
    refine (cnew_no m HBAD.out _).mono ?_
    rintro e w' ⟨rfl, rfl⟩
    go_wp2
    go_ret
    exact ⟨rfl, HB5.out⟩
  · obtain ⟨max, rfl⟩ := Int.eq_ofNat_of_zero_le (show 0 ≤ m by omega)
    have hmax : max ≤ 4096 := by omega
    clear hbad
    go_wp2_with fail
    refine (cnew_yes max hmax w5).mono ?_
    rintro e w6 ⟨X, gx, h1', rfl, ho1, -, hb1, hC, hg1, -⟩
    have HO1 := Lib.hid ho1
    have HB1 := Lib.hid hb1
    have HS1 := Lib.hid (And.intro hC hg1)
    clear ho1 hb1 hC hg1
    go_wp2_with fail
    refine (cnew_yes max hmax w6).mono ?_
    rintro e w7 ⟨Y, gy, hy, rfl, -, hi2, hb2, hD, -, hh⟩
    have hH5 := hb_new hmax HO1.out HB1.out HS1.out.1 HS1.out.2 hi2 hb2 hD hh
    have HH := Lib.hid (show HB w w7 X gx none 0 (.slice none 0 0) [] max [] Y hy none 0 [] max max from ⟨hH5.co, hH5.ci, hH5.al, hH5.sv, fun k hk => Nat.le_trans HB5.out.size (hH5.ob k hk), fun k hk => Nat.le_trans HB5.out.size (hH5.ib k hk), hH5.dj, HB5.out.trans (hH5.bw.mono HB5.out.size)⟩)
    clear hH5 hi2 hb2 hD hh
    go_wp2_with fail
    go_loopg [17] 20 (fun n i wr => ∃ k : Nat, n + k = 20 ∧ i = .int .i64 (k : Int) ∧ Hid (∃ A c Sv xs mx ps A' c' ys my, HB w wr X gx A c Sv xs mx ps Y hy A' c' ys my max ∧ ps.length ≤ 2 * k))
    case atStart => exact ⟨0, rfl, rfl, ⟨_, _, _, _, _, _, _, _, _, _, HH.out, by simp⟩⟩
    case round =>
      obtain ⟨k, hk, rfl, HI⟩ := hrel
      have hbr : Below w.heap.size w wr := by
        obtain ⟨_, _, _, _, _, _, _, _, _, _, h, _⟩ := HI.out
        exact h.bw
      have HBR := Lib.hid hbr
      clear hbr
      by_cases hlt : k < st.length
      · by_cases h20 : k < 20
        · have h20i : ((k : Nat) : Int) < 20 := by omega
          generalize wr = wo at *
          go_upto_block 2 with fail
          go_cut [18, 19] from 86 to 158 (fun _ _ wx => ∃ A c Sv xs mx ps A' c' ys my, HB w wx X gx A c Sv xs mx ps Y hy A' c' ys my max ∧ ps.length ≤ 2 * k + 2)
          case first =>
            go_wp2_with fail
            go_loopg [18] 2 (fun n j wr => ∃ q : Nat, n + q = k + 2 ∧ k ≤ q ∧ j = .int .i64 (q : Int) ∧ Hid (∃ A c Sv xs mx ps A' c' ys my, HB w wr X gx A c Sv xs mx ps Y hy A' c' ys my max ∧ ps.length ≤ 2 * k + (q - k)))
            case atStart => exact ⟨k, by omega, Nat.le_refl _, rfl, by simpa [Hid] using HI.out⟩
            case round =>
              obtain ⟨q, hq, hkq, rfl, HJ⟩ := hrel
              by_cases hqz : q < zs.length
              · by_cases hqk : q < k + 2
                · have i1 : ((q : Nat) : Int) < ((k : Nat) : Int) + 2 := by omega
                  have i2 := decide_eq_true i1
                  obtain ⟨A, c, Sv, xs, mx, ps, A', c', ys, my, hB, hps⟩ := HJ.out
                  obtain ⟨zb, zo, u, rfl, hzb, hzu, hzc⟩ := Reads.elem (HZ.out.below hB.bw) hqz
                  obtain ⟨z, hzq⟩ : ∃ z, zs[q] = z := ⟨_, rfl⟩
                  have huz : u = .int .i64 z := by
                    rw [← hzq]
                    simpa [nums, List.getElem?_eq_getElem hqz] using hzu.symm
                  subst huz
                  have hzw := Nat.lt_of_lt_of_le hzb hB.bw.size
                  have HB' := Lib.hid hB
                  clear hB hzu hzq hzb
                  by_cases h0 : 0 ≤ z
                  · by_cases hzm : z ≤ (max : Int)
                    · obtain ⟨p, rfl⟩ := Int.eq_ofNat_of_zero_le h0
                      have i3 := decide_eq_true hzm
                      have hpm : p ≤ max := by omega
                      have i4 := decide_eq_true hpm
                      go_wp2_with fail
                      refine (hb_resize HB'.out p hpm (by omega)).mono ?_
                      rintro e w9 ⟨rfl, A2', c2', Sv2, hB2⟩
                      have HB2' := Lib.hid hB2
                      clear hB2
                      go_wp2_with fail
                      go_roundg (gk - 1)
                      case measure => omega
                      case rel => exact ⟨q + 1, by omega, by omega, by go_num, ⟨_, _, _, _, _, _, _, _, _, _, HB2'.out, by rw [List.length_append, List.length_singleton]; omega⟩⟩
                    · have i3 := decide_eq_false hzm
                      have i4 := decide_eq_true h0
                      go_wp2_with fail
                      go_roundg (gk - 1)
                      case measure => omega
                      case rel => exact ⟨q + 1, by omega, by omega, by go_num, ⟨_, _, _, _, _, _, _, _, _, _, HB'.out, by omega⟩⟩
                  · have i4 := decide_eq_false h0
                    go_wp2_with fail
                    go_roundg (gk - 1)
                    case measure => omega
                    case rel => exact ⟨q + 1, by omega, by omega, by go_num, ⟨_, _, _, _, _, _, _, _, _, _, HB'.out, by omega⟩⟩
                · have i1 : ¬ ((q : Nat) : Int) < ((k : Nat) : Int) + 2 := by omega
                  have i2 := decide_eq_false i1
                  obtain ⟨A, c, Sv, xs, mx, ps, A', c', ys, my, hB, hps⟩ := HJ.out
                  have HB' := Lib.hid hB
                  clear hB
                  go_wp2
                  go_meet
                  exact ⟨A, c, Sv, xs, mx, ps, A', c', ys, my, HB'.out, by omega⟩
              · obtain ⟨A, c, Sv, xs, mx, ps, A', c', ys, my, hB, hps⟩ := HJ.out
                have HB' := Lib.hid hB
                clear hB
                go_wp2
                go_meet
                exact ⟨A, c, Sv, xs, mx, ps, A', c', ys, my, HB'.out, by omega⟩
          case rest =>
            obtain ⟨A, c, Sv, xs, mx, ps, A', c', ys, my, hB, hps⟩ := hcut
            obtain ⟨sb, so, Rl, d, rfl, hsb0, hrc0, hrr0⟩ := fgrid_row HG.out (Below.refl _ w) hlt
            obtain ⟨hlf, hlm⟩ := HLS.out st[k] (List.getElem_mem hlt)
            obtain ⟨l, hl⟩ : ∃ l, st[k] = l := ⟨_, rfl⟩
            rw [hl] at hlf hlm hrc0 hrr0
            have hrc := (hB.bw.cell (p := ⟨sb, so + k, none⟩) hsb0).trans hrc0
            have hrr := hrr0.below hB.bw
            have hsb := Nat.lt_of_lt_of_le hsb0 hB.bw.size
            have hnl : ∀ ad, Rl = some ad → 0 < l.length → ¬ oOwn X gx A Sv ad.block := fun ad e h0 ho => by
              obtain ⟨ad', e', hb', _⟩ := hrr.2 h0
              rw [e] at e'
              cases e'
              have := hB.ob _ ho
              omega
            have HRR := Lib.hid (hrr.more hB.bw.size)
            have HB' := Lib.hid hB
            have HLF := Lib.hid hlf
            have HNL := Lib.hid hnl
            have HR0 := Lib.hid hrr0
            have HRC0 := Lib.hid hrc0
            clear hl hrr hlf hnl hB hrr0 hrc0
            by_cases hE : saidE l = 0
            · have HE := Lib.hid hE
              clear hE
              go_wp2_with fail
              refine (hb_said HB'.out l HLF.out hlm (by omega) HE.out Rl _ d rfl HRR.out HNL.out).mono ?_
              rintro e w10 ⟨bb, A2', c2', A3', c3', Bq, rfl, hM⟩
              have HM := Lib.hid hM
              clear hM hrc hsb
              go_wp2_with fail
              refine (hb_heard HM.out).mono ?_
              rintro e w11 ⟨A4, c4', A5, c5', rfl, hrow, hB11⟩
              have hrc := (hB11.bw.cell (p := ⟨sb, so + k, none⟩) hsb0).trans HRC0.out
              have hsb := Nat.lt_of_lt_of_le hsb0 hB11.bw.size
              have HR11 := Lib.hid ((HR0.out.below hB11.bw).more hB11.bw.size)
              have HRW := Lib.hid (reads_own hrow)
              have HB11 := Lib.hid hB11
              clear hrow hB11
              go_wp2_with fail
              refine (same_fields l hlm A4 Rl _ _ c4' d rfl rfl w11 HRW.out HR11.out).mono ?_
              rintro e w12 ⟨rfl, hb12⟩
              have HB12 := Lib.hid (HB11.out.next hb12)
              clear hb12 hrc hsb
              go_wp2_with fail
              go_roundg (gk - 1)
              case measure => omega
              case rel => exact ⟨k + 1, by omega, by go_num, ⟨_, _, _, _, _, _, _, _, _, _, HB12.out, by simp⟩⟩
            · have HE := Lib.hid hE
              clear hE
              go_wp2_with fail
              refine (hb_fault HB'.out l HLF.out hlm HE.out Rl _ d rfl HRR.out).mono ?_
              rintro e w10 ⟨rfl, hB10⟩
              have HB10 := Lib.hid hB10
              clear hB10
              go_wp2_with fail
              go_roundg (gk - 1)
              case measure => omega
              case rel => exact ⟨k + 1, by omega, by go_num, ⟨_, _, _, _, _, _, _, _, _, _, HB10.out, by omega⟩⟩
        · have h20i : ¬ ((k : Nat) : Int) < 20 := by omega
          have h20d := decide_eq_false h20i
          go_wp2
          go_ret
          exact ⟨rfl, HBR.out⟩
      · go_wp2
        go_ret
        exact ⟨rfl, HBR.out⟩
end Go.Proofs.Ytkbbkamnmdeagaa
