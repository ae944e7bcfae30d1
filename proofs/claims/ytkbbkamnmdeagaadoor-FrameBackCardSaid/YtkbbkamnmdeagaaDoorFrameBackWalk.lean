/-
  The walk of the law FrameBack: it returns true, and nothing that was in memory turns. Condition: errors.errorType reads as laid.
-/
import Derived.Test.YtkbbkamnmdeagaaDoorFbA
import Derived.Test.YtkbbkamnmdeagaaDoorSplit
import Derived.Deep.CutRange
import Derived.Deep.LoopGhost
import Derived.Deep.CutBlock
import Derived.Deep.QuietTactic
import Derived.BigQuiet
namespace Go.Proofs.YtkbbkamnmdeagaaDoor
open Go.RowKit

theorem sub2_wrap {n : Nat} (h : n ≤ 1033) : wrap64 ((n : Int) - 2) = (n : Int) - 2 := by
  unfold wrap64
  omega
theorem sub1_cast {n : Nat} (h : 2 ≤ n) : ((n - 1 : Nat) : Int) = (n : Int) - 2 + 1 := by omega
theorem own_belowB {w w' : World} {base : Nat} {e : TypeId} {size n : Nat} {v : Value} {xs : List Value} (h : w.ownsRow base e size v n xs) (hb : Below w.heap.size w w') : w'.ownsRow base e size v n xs :=
  own_kept_nc h (grown_of_below hb) (fun r e => by cases e)
theorem cell_behindB {w w1 : World} (hb : Below w.heap.size w w1) {p : Addr} {v : Value} (h : w.cell? p = some v) : w1.cell? p = some v := (hb.cell (World.block_lt_of_cell? w p h)).trans h
theorem wrap_m1 {m : Nat} (h1 : 1 ≤ m) (h : m ≤ 1000000000000) : wrap64 ((m : Int) - 1) = (m : Int) - 1 := by
  unfold wrap64
  omega
theorem last_yes {b : Int} {k m : Nat} (h : k + 1 = m) (hb : (!(b == 0)) = decide (k + 1 = m)) : (b != 0) = true ∧ (b == 0) = false ∧ ((k : Int) == (m : Int) - 1) = true := by
  rw [decide_eq_true h] at hb
  have : (b == 0) = false := by simpa using hb
  exact ⟨by simpa [bne] using this, this, by simp; omega⟩
theorem last_no {b : Int} {k m : Nat} (h : ¬ k + 1 = m) (hb : (!(b == 0)) = decide (k + 1 = m)) : b = 0 ∧ ((k : Int) == (m : Int) - 1) = false ∧ ¬ (k : Int) = (m : Int) - 1 := by
  rw [decide_eq_false h] at hb
  have : (b == 0) = true := by simpa using hb
  exact ⟨by simpa using this, by simp; omega, by omega⟩
theorem j_yes {k : Nat} (h : 20 < k) : (20 : Int) < (k : Int) ∧ decide ((20 : Int) < (k : Int)) = true := by
  have : (20 : Int) < (k : Int) := by omega
  exact ⟨this, decide_eq_true this⟩
theorem j_no {k : Nat} (h : ¬ 20 < k) : ¬ (20 : Int) < (k : Int) ∧ decide ((20 : Int) < (k : Int)) = false := by
  have : ¬ (20 : Int) < (k : Int) := by omega
  exact ⟨this, decide_eq_false this⟩
theorem jj_yes {k n : Nat} (h : k < n - 2) : (k : Int) < (n : Int) - 2 ∧ decide ((k : Int) < (n : Int) - 2) = true := by
  have : (k : Int) < (n : Int) - 2 := by omega
  exact ⟨this, decide_eq_true this⟩
theorem jj_no {k n : Nat} (h : ¬ k < n - 2) (h1 : 20 < k) (h2 : k < n) : ¬ (k : Int) < (n : Int) - 2 ∧ decide ((k : Int) < (n : Int) - 2) = false := by
  have : ¬ (k : Int) < (n : Int) - 2 := by omega
  exact ⟨this, decide_eq_false this⟩
set_option maxRecDepth 100000 in
set_option maxHeartbeats 4000000 in
theorem frameBack_walk (f : Frm) (A : Option Addr) (c : Nat) (l : List UInt8) (B : Option Addr) (d : Nat) (block : List UInt8) (D : Option Addr) (dc : Nat) (w : World) (hE : ErrType w) (hf : f.body.length ≤ 140737488355328) (hrf : Reads w w.heap.size 1 A f.body.length (bs f.body))
    (hcap : l.length ≤ d) (hm : l.length ≤ 140737488351232) (hr : Reads w w.heap.size 1 B l.length (bs l)) (hcb : block.length ≤ dc) (hmb : block.length ≤ 140737488351232) (hrb : Reads w w.heap.size 1 D block.length (bs block)) :
    Calls Tryd.prog 10 #[frV f A c, .slice B l.length d, .slice D block.length dc] w fun e w' => e = .returned (.bool true) ∧ Below w.heap.size w w' := by
  obtain ⟨W1, hW1⟩ : ∃ W1, w.alloc (.cells #[.int .i64 f.K, .int .i64 f.F, .int .i64 f.S, .slice A f.body.length c] 50) = W1 := ⟨_, rfl⟩
  have hs1 : W1.heap.size = w.heap.size + 1 := by rw [← hW1]; simp
  have hb1 : Below w.heap.size w W1 := by rw [← hW1]; exact (Below.refl _ _).alloc (Nat.le_refl _) _
  have hk1 : Blk W1 w.heap.size 50 #[.int .i64 f.K, .int .i64 f.F, .int .i64 f.S, .slice A f.body.length c] := by rw [← hW1]; exact Blk.new w _ _
  have HB1 := Lib.hid hb1
  have HK1 := Lib.hid hk1
  have HR := Lib.hid hr
  have HRF := Lib.hid hrf
  have HRB := Lib.hid hrb
  have HE := Lib.hid hE
  have HMB := Lib.hid hmb
  have HCB := Lib.hid hcb
  have HW1 := Lib.hid hW1
  clear hb1 hk1 hr hrf hrb hE hW1 hmb hcb
  go_enter Tryd.func10, Tryd.ntmps10
  unfold frV
  go_wp2_with fail
  rw [HW1.out]
  refine (fact_any W1 _ hs1).mono ?_
  rintro e w2 ⟨A2, c2, rfl, hb2⟩
  obtain ⟨W3, hW3⟩ : ∃ W3, w2.alloc (.cells #[.int .i64 0, .int .i64 1, .int .i64 3, .slice A2 1 c2] 50) = W3 := ⟨_, rfl⟩
  have hb3 : Below w2.heap.size w2 W3 := by rw [← hW3]; exact (Below.refl _ _).alloc (Nat.le_refl _) _
  have hb13 := bnx hb2 hb3
  have hk3 := HK1.out.below hb13 HK1.out.lt
  have q0 := hk3.cell 0
  have q1 := hk3.cell 1
  have q2 := hk3.cell 2
  have q3 := hk3.cell 3
  have HB3 := Lib.hid (HB1.out.trans (hb13.mono HB1.out.size))
  have HK3 := Lib.hid hk3
  have HW3 := Lib.hid hW3
  clear hb2 hb3 hb13 hk3 hW3
  go_upto_region 4 with fail
  rw [HW3.out]
  have HR3 := Lib.hid ((HRF.out.below HB3.out).more HB3.out.size)
  go_wp2_with fail
  refine (fenc_all f A c hf W3 HR3.out).mono ?_
  rintro e w4 ⟨A4, c4, rfl, hg4, ho4⟩
  have HG4 := Lib.hid hg4
  have HO4 := Lib.hid ho4
  clear hg4 ho4 q0 q1 q2 q3
  go_upto_region 5 with fail
  go_cut [59] from 11 to 59 (fun x wx => x = .bool (decide (frmE f = 0)) ∧ wx = w4)
  case first =>
    by_cases h0 : frmE f = 0
    · rw [h0, errV_zero]
      go_wp2
      go_meet
      exact ⟨by simpa using h0, rfl⟩
    · rw [errV_pos h0]
      go_wp2
      go_meet
      exact ⟨by simp [h0], rfl⟩
  case rest =>
    obtain ⟨rfl, hw⟩ := hcut
    have hw2 := hw.symm
    subst hw2
    clear hw
    go_upto_if 59 with fail
    go_cut [] from 10 to 114 (fun wx => Below W3.heap.size W3 wx)
    case first =>
      by_cases h0 : frmE f = 0
      · have hd : decide (frmE f = 0) = true := decide_eq_true h0
        obtain ⟨L, hL⟩ : ∃ L, frmL f = L := ⟨_, rfl⟩
        have hll := frmL_length h0
        obtain ⟨hc4, hr4, hb4⟩ := HG4.out
        have hb4s := hb4.size
        have hown4 := HO4.out h0
        rw [hL] at hll hr4 hc4 hown4 ⊢
        have H0 := Lib.hid h0
        have HL := Lib.hid hL
        have HR4 := Lib.hid hr4
        have HOWN4 := Lib.hid hown4
        have hfb : L.length ≤ 1033 := by have := (frmE_zero h0).2; omega
        have HB4 := Lib.hid (bnx (HB3.out.mono (B' := w.heap.size) (Nat.le_refl _)) hb4)
        rw [hd]
        clear h0 hL hr4 hown4 hll hb4 hd
        go_wp2_with fail
        go_loopg [12] L.length (fun n i wr => ∃ k : Nat, n + k = L.length ∧ i = .int .i64 (k : Int) ∧ Hid (Below w4.heap.size w4 wr))
        case atStart => exact ⟨0, rfl, rfl, Below.refl _ _⟩
        case round =>
          obtain ⟨k, hk, rfl, HBr⟩ := hrel
          by_cases hlt : k < L.length
          · have hkc : k ≤ c4 := by omega
            have hEr := HE.out.next (HB4.out.trans (HBr.out.mono HB4.out.size))
            have hrr := (HR4.out.below HBr.out).more HBr.out.size
            have HRR := Lib.hid hrr
            have HER := Lib.hid hEr
            clear hrr hEr
            go_wp2_with fail
            refine (fread_cut H0.out k (by rw [HL.out]; exact hlt) A4 c4 hkc wr (by rw [HL.out]; exact HRR.out) (by rw [HL.out]; omega)).mono ?_
            rintro e w5 ⟨A5, c5, rfl, hb5⟩
            have hb6 := hb5.alloc hb5.size (.cells #[.int .i64 0, .int .i64 0, .int .i64 0, .slice A5 0 c5] 50)
            have HB6 := Lib.hid (HBr.out.trans (hb6.mono HBr.out.size))
            have HE6 := Lib.hid (HER.out.next hb6)
            clear hb5 hb6
            go_wp2_with fail
            generalize w5.alloc (.cells #[.int .i64 0, .int .i64 0, .int .i64 0, .slice A5 0 c5] 50) = w6 at *
            refine (same_num 8 (by decide) w6 HE6.out).mono ?_
            rintro e w7 ⟨rfl, hb7⟩
            have HB7 := Lib.hid (HB6.out.trans (hb7.mono HB6.out.size))
            clear hb7
            have hsub : wrap64 (((L.length : Nat) : Int) - 2) = ((L.length : Nat) : Int) - 2 := sub2_wrap hfb
            by_cases hj : 20 < k
            · obtain ⟨j1, j2⟩ := j_yes hj
              by_cases hj2 : k < L.length - 2
              · obtain ⟨j3, j4⟩ := jj_yes hj2
                go_wp2_with fail
                go_roundg 1
                case measure => omega
                case rel => exact ⟨L.length - 1, by omega, by rw [sub1_cast (show 2 ≤ L.length by omega)], HB7.out⟩
              · obtain ⟨j3, j4⟩ := jj_no hj2 hj hlt
                go_wp2_with fail
                go_roundg (gk - 1)
                case measure => omega
                case rel => exact ⟨k + 1, by omega, by go_num, HB7.out⟩
            · obtain ⟨j1, j2⟩ := j_no hj
              go_wp2_with fail
              go_roundg (gk - 1)
              case measure => omega
              case rel => exact ⟨k + 1, by omega, by go_num, HB7.out⟩
          · have hkl : k = L.length := by omega
            subst hkl
            have hs := HBr.out.size
            have h34 := hb4s
            have hownr := own_belowB HOWN4.out HBr.out
            have hrl := HR.out.below (HB4.out.trans (HBr.out.mono HB4.out.size))
            have hws := HB4.out.size
            have hbig : L.length + l.length ≤ 140737488355328 := by omega
            have HOR := Lib.hid hownr
            have HRL := Lib.hid hrl
            have H3r := Lib.hid (Nat.le_trans h34 hs)
            clear hownr hrl hlt hk
            go_upto_region 16 with fail
            go_wp2_with (at_builtin; refine wpList_join rfl _ _ rfl W3.heap.size _ _ _ rfl HOR.out w.heap.size B l.length d (bs l) rfl HRL.out (bs_one l) hbig H3r.out ?_; intro v6 w6 hown6 hb6; rw [← bs_append, ← List.length_append] at hown6; obtain ⟨A6, c6, rfl, hc6, hr6⟩ := isBytes_of_own hown6)
            have hlen6 : (L ++ l).length ≤ 140737488355328 := by rw [List.length_append]; exact hbig
            have hh := frm_heard H0.out l
            rw [HL.out] at hh
            have hb36 : Below W3.heap.size W3 w6 := ((HG4.out.2.2).trans (HBr.out.mono HG4.out.2.2.size)).trans hb6
            refine (fread_any (L ++ l) A6 _ c6 (by simp) hc6 hlen6 w6 hr6).mono ?_
            rintro e w7 ⟨v, rfl, A7, c7, rfl, hr7, hb7⟩
            rw [hh] at hr7 ⊢
            dsimp only at hr7 ⊢
            rw [errV_zero, frV_cells]
            have hb37 := hb36.trans (hb7.mono hb36.size)
            have HB37 := Lib.hid hb37
            have HR7 := Lib.hid hr7
            clear hh hb7 hr7 hb6 hb36 hb37 hown6 hc6 hr6 hlen6
            go_upto_region 18 with fail
            obtain ⟨W8, hW8⟩ : ∃ W8, w7.alloc (.cells #[.int .i64 f.K, .int .i64 f.F, .int .i64 f.S, .slice A7 f.body.length c7] 50) = W8 := ⟨_, rfl⟩
            have hb78 : Below w7.heap.size w7 W8 := by rw [← hW8]; exact (Below.refl _ _).alloc (Nat.le_refl _) _
            have hk8 : Blk W8 w7.heap.size 50 #[.int .i64 f.K, .int .i64 f.F, .int .i64 f.S, .slice A7 f.body.length c7] := by rw [← hW8]; exact Blk.new w7 _ _
            rw [hW8]
            have hb38 := HB37.out.trans (hb78.mono HB37.out.size)
            have hk3 := HK3.out.below hb38 HK3.out.lt
            have q0 := hk3.cell 0
            have q1 := hk3.cell 1
            have q2 := hk3.cell 2
            have q3 := hk3.cell 3
            have r0 := hk8.cell 0
            have r1 := hk8.cell 1
            have r2 := hk8.cell 2
            have r3 := hk8.cell 3
            have HB38 := Lib.hid hb38
            have HR78 := Lib.hid ((HR7.out.below hb78).more hb78.size)
            have HR38 := Lib.hid ((HR3.out.below hb38).more hb38.size)
            clear hW8 hb78 hk8 hb38 hk3
            go_wp2_with fail
            refine (same_frame f A7 c7 A c W8 HR78.out HR38.out).mono ?_
            rintro e w9 ⟨rfl, hb9⟩
            have HB39 := Lib.hid (HB38.out.trans (hb9.mono HB38.out.size))
            clear hb9 q0 q1 q2 q3 r0 r1 r2 r3
            go_wp2
            go_meet
            exact HB39.out
      · have hd : decide (frmE f = 0) = false := decide_eq_false h0
        go_wp2
        go_meet
        exact HG4.out.2.2
    case rest =>
      have hbc := HB3.out.trans (hcut.mono HB3.out.size)
      have HBC := Lib.hid hbc
      have HRL := Lib.hid ((HR.out.below hbc).more hbc.size)
      have hml : l.length ≤ 140737488355328 := by omega
      clear hcut hbc
      go_wp2_with fail
      refine (fread_any l B _ d rfl hcap hml wc HRL.out).mono ?_
      rintro e w5 ⟨v, rfl, A5, c5, rfl, hr5, hb5⟩
      obtain ⟨G, U, E, hG⟩ : ∃ G U E, frmR l = (G, U, E) := ⟨_, _, _, rfl⟩
      rw [hG] at hr5 ⊢
      dsimp only at hr5 ⊢
      rw [frV_cells]
      have HG := Lib.hid hG
      have HB5 := Lib.hid (HBC.out.trans (hb5.mono HBC.out.size))
      have HR5 := Lib.hid hr5
      clear hG hb5 hr5
      go_upto_region 22 with fail
      obtain ⟨W6, hW6⟩ : ∃ W6, w5.alloc (.cells #[.int .i64 G.K, .int .i64 G.F, .int .i64 G.S, .slice A5 G.body.length c5] 50) = W6 := ⟨_, rfl⟩
      have hb6 : Below w5.heap.size w5 W6 := by rw [← hW6]; exact (Below.refl _ _).alloc (Nat.le_refl _) _
      have hk6 : Blk W6 w5.heap.size 50 #[.int .i64 G.K, .int .i64 G.F, .int .i64 G.S, .slice A5 G.body.length c5] := by rw [← hW6]; exact Blk.new w5 _ _
      rw [hW6]
      have HK6 := Lib.hid hk6
      have HB6 := Lib.hid (HB5.out.trans (hb6.mono HB5.out.size))
      have HR6 := Lib.hid ((HR5.out.below hb6).more hb6.size)
      clear hW6 hb6 hk6
      go_cut [22, 122] from 11 to 122 (fun g x wx => g = .pointer (some ⟨w5.heap.size, 0, none⟩) ∧ x = .bool (decide (E = 0)) ∧ wx = W6)
      case first =>
        by_cases h0 : E = 0
        · rw [h0, errV_zero]
          go_wp2
          go_meet
          exact ⟨rfl, by simpa using h0, rfl⟩
        · rw [errV_pos h0]
          go_wp2
          go_meet
          exact ⟨rfl, by simp [h0], rfl⟩
      case rest =>
        obtain ⟨rfl, rfl, hw⟩ := hcut
        have hw2 := hw.symm
        subst hw2
        clear hw
        go_upto_if 122 with fail
        go_cut [] from 10 to 138 (fun wx => Below w.heap.size w wx)
        case first =>
          by_cases h0 : E = 0
          · have hd : decide (E = 0) = true := decide_eq_true h0
            rw [hd]
            clear hd
            obtain ⟨hGE, hGL, hUl⟩ := frm_back (b := l) (g := G) (n := U) (by rw [HG.out, h0])
            obtain ⟨Z, hZ⟩ : ∃ Z, l.take U = Z := ⟨_, rfl⟩
            have hZl : U = Z.length := by rw [← hZ, List.length_take]; omega
            have hrZ := (HR.out.below HB6.out).take hUl
            rw [bs_take, hZ] at hrZ
            rw [hZ] at hGL
            subst hZl
            have p0 := HK6.out.cell 0
            have p1 := HK6.out.cell 1
            have p2 := HK6.out.cell 2
            have p3 := HK6.out.cell 3
            have HGE := Lib.hid hGE
            have HGL := Lib.hid hGL
            have HRZ := Lib.hid hrZ
            clear hZ h0 hGE hGL hrZ
            go_wp2_with fail
            refine (fenc_fine G A5 c5 HGE.out W6 HR6.out).mono ?_
            rintro e w7 ⟨A7, c7, rfl, hg7⟩
            rw [HGE.out, errV_zero]
            rw [HGL.out] at hg7 ⊢
            have HB7 := Lib.hid (HB6.out.trans (hg7.2.2.mono HB6.out.size))
            have k2 := fun m => run_str (w := w7.drewN m) (hg7.2.1.drewN m) c7
            have k3 := fun m => run_str (w := w7.drewN m) (A := B) (l := Z) (((HRZ.out.below (hg7.2.2.mono HB6.out.size)).more HB7.out.size).drewN m) d
            clear hg7 p0 p1 p2 p3
            go_wp2_with fail
            go_quiet (fail)
            go_wp2
            go_meet
            exact below_dN HB7.out _
          · have hd : decide (E = 0) = false := decide_eq_false h0
            rw [hd]
            go_wp2
            go_meet
            exact HB6.out
        case rest =>
          clear HK6 HR6 HB6
          have HC := Lib.hid hcut
          have HRC := Lib.hid ((HRB.out.below hcut).more hcut.size)
          clear hcut
          go_wp2_with fail
          refine (split_any 3 block D _ dc rfl (by have := HMB.out; omega) HCB.out true wc HRC.out).mono ?_
          rintro e w7 ⟨A', m, c', rfl, hmm, hb7, g, rfl, hg7, hSC⟩
          have hm1 : 1 ≤ m := by omega
          have hm2 : m ≤ 1000000000000 := by
            have h1 := pieces_le (show block.length ≤ 140737488355328 by have := HMB.out; omega)
            omega
          have HMM := Lib.hid hmm
          have HSC := Lib.hid hSC
          have HB7 := Lib.hid (HC.out.trans (hb7.mono HC.out.size))
          have HRB7 := Lib.hid ((HRC.out.below hb7).more hb7.size)
          have H17 := Lib.hid (show w.heap.size ≤ w7.heap.size from HB7.out.size)
          clear hmm hb7 hSC
          go_wp2_with fail
          go_loopg [25, 27] m (fun n all i wr => ∃ k : Nat, n + k = m ∧ i = .int .i64 (k : Int) ∧ Hid (wr.ownsRow w7.heap.size 5 1 all (block.take (1024 * k)).length (bs (block.take (1024 * k)))) ∧ Hid (Below w7.heap.size w7 wr))
          case atStart => exact ⟨0, rfl, rfl, by rw [Nat.mul_zero, List.take_zero]; exact World.ownsRow_nil w7 w7.heap.size 5 1, Below.refl _ _⟩
          case round =>
            obtain ⟨k, hk, rfl, HOWN, HBr⟩ := hrel
            by_cases hlt : k < m
            · obtain ⟨F, hF⟩ : ∃ F, spF block m k = F := ⟨_, rfl⟩
              have hFz := spF_fine block m k
              have hFk := spF_kind block m k
              have hFf := spF_flag block m k
              obtain ⟨A1, c1, s0, s1, s2, s3, s4, s5⟩ := HSC.out k hlt
              have s0' : w7.cell? ⟨g, 4 * k, none⟩ = some (.int .i64 (spF block m k).K) := s0
              have s1' : w7.cell? ⟨g, 4 * k + 1, none⟩ = some (.int .i64 (spF block m k).F) := s1
              have s2' : w7.cell? ⟨g, 4 * k + 2, none⟩ = some (.int .i64 (spF block m k).S) := s2
              have s3' : w7.cell? ⟨g, 4 * k + 3, none⟩ = some (.slice A1 (spF block m k).body.length c1) := s3
              have s4' : Reads w7 w7.heap.size 1 A1 (spF block m k).body.length (bs (spF block m k).body) := s4
              have hS3 : (spF block m k).S = 3 := rfl
              have hbody : (spF block m k).body = pcB block k := rfl
              rw [hF] at hFz hFk hFf s0' s1' s2' s3' s4' hS3 hbody
              rw [Nat.mul_comm] at s0' s1' s2' s3'
              have d0 := (HBr.out.cell (p := ⟨g, k * 4, none⟩) hg7).trans s0'
              have d1 := (HBr.out.cell (p := ⟨g, k * 4 + 1, none⟩) hg7).trans s1'
              have d2 := (HBr.out.cell (p := ⟨g, k * 4 + 2, none⟩) hg7).trans s2'
              have d3 := (HBr.out.cell (p := ⟨g, k * 4 + 3, none⟩) hg7).trans s3'
              have HRF := Lib.hid ((s4'.below HBr.out).more HBr.out.size)
              have HFZ := Lib.hid hFz
              have HFK := Lib.hid hFk
              have HFF := Lib.hid hFf
              have HFB := Lib.hid hbody
              have HFS := Lib.hid hS3
              have hki : ((k : Nat) : Int) < ((m : Nat) : Int) := by omega
              clear s0 s1 s2 s3 s4 s0' s1' s2' s3' s4' hFz hFk hFf hbody hS3 hF s5
              go_wp2_with fail
              refine (fenc_fine F A1 c1 HFZ.out wr HRF.out).mono ?_
              rintro e w8 ⟨A8, c8, rfl, hg8⟩
              rw [HFZ.out, errV_zero]
              have HG8 := Lib.hid hg8.2.2
              have d0 := cell_behindB hg8.2.2 d0
              have d1 := cell_behindB hg8.2.2 d1
              have d2 := cell_behindB hg8.2.2 d2
              have d3 := cell_behindB hg8.2.2 d3
              clear hg8
              go_wp2_with fail
              refine (check_head F A1 c1 HFK.out HFS.out w8).mono ?_
              rintro e w9 ⟨rfl, hb9⟩
              have d0 := cell_behindB hb9 d0
              have d1 := cell_behindB hb9 d1
              have d2 := cell_behindB hb9 d2
              have d3 := cell_behindB hb9 d3
              have HB9 := Lib.hid hb9
              clear hb9
              have HB79 := Lib.hid ((HBr.out.trans (HG8.out.mono HBr.out.size)).trans (HB9.out.mono (Nat.le_trans HBr.out.size HG8.out.size)))
              have HS9 := Lib.hid HB79.out.size
              have HOWN9 := Lib.hid (own_belowB (own_belowB HOWN.out HG8.out) HB9.out)
              have HRF9 := Lib.hid ((((HRF.out.below HG8.out).more HG8.out.size).below HB9.out).more HB9.out.size)
              have hbig : (block.take (1024 * k)).length + F.body.length ≤ 140737488355328 := by
                have h1 : (block.take (1024 * k)).length ≤ block.length := by rw [List.length_take]; omega
                have h2 := pc_small block k
                rw [← HFB.out] at h2
                have h3 := HMB.out
                omega
              have hwm := wrap_m1 hm1 hm2
              by_cases hkm : k + 1 = m
              · obtain ⟨t1, t2, t3⟩ := last_yes (b := bits .and .i64 F.F 4) hkm HFF.out
                have HKM := Lib.hid hkm
                clear hkm
                go_upto_region 34 with fail
                clear t1 t2 t3 hwm
                go_wp2_with (at_builtin; refine wpList_join rfl _ _ rfl w7.heap.size _ _ _ rfl HOWN9.out w9.heap.size A1 F.body.length c1 (bs F.body) rfl HRF9.out (bs_one _) hbig HS9.out ?_; intro v10 w10 hown10 hb10; have HOWN10 := Lib.hid hown10; have HB10 := Lib.hid hb10; clear hown10 hb10)
                go_roundg (gk - 1)
                case measure => omega
                case rel => exact ⟨k + 1, by omega, by go_num, by have h := HOWN10.out; rw [HFB.out, ← bs_append, ← List.length_append, pc_take] at h; exact h, HB79.out.trans HB10.out⟩
              · obtain ⟨t1, t2, t3⟩ := last_no (b := bits .and .i64 F.F 4) hkm HFF.out
                have HKM := Lib.hid hkm
                clear hkm
                go_upto_region 34 with fail
                clear t1 t2 t3 hwm
                go_wp2_with (at_builtin; refine wpList_join rfl _ _ rfl w7.heap.size _ _ _ rfl HOWN9.out w9.heap.size A1 F.body.length c1 (bs F.body) rfl HRF9.out (bs_one _) hbig HS9.out ?_; intro v10 w10 hown10 hb10; have HOWN10 := Lib.hid hown10; have HB10 := Lib.hid hb10; clear hown10 hb10)
                go_roundg (gk - 1)
                case measure => omega
                case rel => exact ⟨k + 1, by omega, by go_num, by have h := HOWN10.out; rw [HFB.out, ← bs_append, ← List.length_append, pc_take] at h; exact h, HB79.out.trans HB10.out⟩
            · have hkm : k = m := by omega
              subst hkm
              have hall := pc_all block k HMM.out
              have hown := HOWN.out
              rw [hall] at hown
              obtain ⟨Aa, ca, rfl, hca, hra⟩ := isBytes_of_own hown
              have k2 := run_str hra ca
              have k3 := run_str (w := wr) ((HRB7.out.below HBr.out).more HBr.out.size) dc
              have HBF := Lib.hid (HB7.out.trans (HBr.out.mono HB7.out.size))
              have h0k : (0 : Int) < ((k : Nat) : Int) := by omega
              clear hown hall hca hra hlt hk
              go_wp2
              go_ret
              exact ⟨by simp, HBF.out⟩
end Go.Proofs.YtkbbkamnmdeagaaDoor
