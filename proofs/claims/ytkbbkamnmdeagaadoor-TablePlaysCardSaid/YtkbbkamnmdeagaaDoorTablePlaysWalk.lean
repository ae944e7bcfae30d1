/-
  The walk of the law TablePlays: it returns true, and nothing that was in memory turns. Condition: errors.errorType reads as laid; the fields' texts' lengths.
-/
import Derived.Test.YtkbbkamnmdeagaaDoorTabPlay
import Derived.Test.YtkbbkamnmdeagaaDoorMem2
import Derived.Test.YtkbbkamnmdeagaaDoorQuietIn
import Derived.Deep.CutRange
import Derived.Deep.LoopGhost
import Derived.Deep.CutBlock
namespace Go.Proofs.YtkbbkamnmdeagaaDoor
open Go.RowKit
attribute [local go_sem ↓] Go.wp_at_zero Go.wp_at_succ

/-- Rows of numbers in memory. -/
def Grid (w : World) (S : Option Addr) (st : List (List Int)) : Prop :=
  0 < st.length → ∃ b off, S = some ⟨b, off, none⟩ ∧ b < w.heap.size ∧ ∀ k (hk : k < st.length), ∃ R d, w.cell? ⟨b, off + k, none⟩ = some (.slice R st[k].length d) ∧ (0 < st[k].length → ∃ rb ro, R = some ⟨rb, ro, none⟩ ∧ rb < w.heap.size ∧ ∀ j (hj : j < st[k].length), w.cell? ⟨rb, ro + j, none⟩ = some (.int .i64 st[k][j]))
/-- The field at a number, where there is one. -/
def pick (l : List Fld) (b : Int) : Fld := if 0 ≤ b ∧ b < ((l.length : Nat) : Int) then l.getD b.toNat ([], []) else ([], [])
theorem pick_in {l : List Fld} {n : Nat} (h : n < l.length) : pick l (n : Int) = l[n] := by
  unfold pick
  rw [if_pos (by omega)]
  simp [List.getD_eq_getElem?_getD, List.getElem?_eq_getElem h]
theorem pick_out {l : List Fld} {b : Int} (h : ¬ (0 ≤ b ∧ b < ((l.length : Nat) : Int))) : pick l b = ([], []) := by rw [pick, if_neg h]
theorem pick_ok {l : List Fld} (h : ∀ f ∈ l, fOk f) (b : Int) : fOk (pick l b) := by
  by_cases hb : 0 ≤ b ∧ b < ((l.length : Nat) : Int)
  · obtain ⟨n, rfl⟩ := Int.eq_ofNat_of_zero_le hb.1
    rw [pick_in (show n < l.length by omega)]
    exact h _ (List.getElem_mem _)
  · rw [pick_out hb]
    exact ⟨Nat.zero_le _, Nat.zero_le _⟩
theorem grid_row {w w1 : World} {S : Option Addr} {st : List (List Int)} (h : Grid w S st) (hb : Below w.heap.size w w1) {k : Nat} (hk : k < st.length) :
    ∃ b off R d, S = some ⟨b, off, none⟩ ∧ b < w1.heap.size ∧ w1.cell? ⟨b, off + k, none⟩ = some (.slice R st[k].length d) ∧ (0 < st[k].length → ∃ rb ro, R = some ⟨rb, ro, none⟩ ∧ rb < w1.heap.size ∧ ∀ j (hj : j < st[k].length), w1.cell? ⟨rb, ro + j, none⟩ = some (.int .i64 st[k][j])) := by
  obtain ⟨b, off, hS, hlt, hc⟩ := h (by omega)
  obtain ⟨R, d, h1, h2⟩ := hc k hk
  refine ⟨b, off, R, d, hS, Nat.lt_of_lt_of_le hlt hb.size, (hb.cell (p := ⟨b, off + k, none⟩) hlt).trans h1, fun h0 => ?_⟩
  obtain ⟨rb, ro, hR, hl2, h3⟩ := h2 h0
  exact ⟨rb, ro, hR, Nat.lt_of_lt_of_le hl2 hb.size, fun j hj => (hb.cell (p := ⟨rb, ro + j, none⟩) hl2).trans (h3 j hj)⟩

set_option maxRecDepth 100000 in
set_option maxHeartbeats 4000000 in
theorem tablePlays_bad (m : Int) (hm : m < 0 ∨ 4096 < m) (v1 v2 : Value) (w : World) (hE : ErrType w) :
    Calls Tryd.prog 11 #[.int .i64 m, v1, v2] w fun e w' => e = .returned (.bool true) ∧ Below w.heap.size w w' := by
  have HM := Lib.hid hm
  have hst := same_true 1 w hE
  rw [errV_pos (by decide)] at hst
  have HS := Lib.hid hst
  clear hst
  rcases hm with hm | hm
  · go_enter Tryd.func11, Tryd.ntmps11
    go_wp2_with fail
    refine (new_no m HM.out _).mono ?_
    rintro e w' ⟨rfl, rfl⟩
    go_wp2_with fail
    refine HS.out.mono ?_
    rintro e w' ⟨rfl, hb⟩
    go_wp2
    go_ret
    exact ⟨rfl, hb⟩
  · have h0 : ¬ m < 0 := by omega
    go_enter Tryd.func11, Tryd.ntmps11
    go_wp2_with fail
    refine (new_no m HM.out _).mono ?_
    rintro e w' ⟨rfl, rfl⟩
    go_wp2_with fail
    refine HS.out.mono ?_
    rintro e w' ⟨rfl, hb⟩
    go_wp2
    go_ret
    exact ⟨rfl, hb⟩

set_option maxRecDepth 100000 in
set_option maxHeartbeats 8000000 in
theorem tablePlays_walk (m : Nat) (hm : m ≤ 4096) (l : List Fld) (A : Option Addr) (c : Nat) (st : List (List Int)) (S : Option Addr) (sc : Nat) (w : World) (hE : ErrType w) (hl : l.length ≤ 140737488355328) (hfs : ∀ f ∈ l, fOk f) (hr : Reads w w.heap.size 2 A l.length (fvs l))
    (hg : Grid w S st) (hsl : st.length ≤ 140737488355328) (hrl : ∀ r ∈ st, r.length ≤ 140737488355328) :
    Calls Tryd.prog 11 #[.int .i64 (m : Int), .slice A l.length c, .slice S st.length sc] w fun e w' => e = .returned (.bool true) ∧ Below w.heap.size w w' := by
  go_enter Tryd.func11, Tryd.ntmps11
  go_wp2_with fail
  refine (new_yes m hm w).mono ?_
  rintro e w1 ⟨rfl, hT1, hb1, _⟩
  have HT1 := Lib.hid hT1
  have HB1 := Lib.hid hb1
  have hst := same_true 0 w1 (hE.next hb1)
  rw [errV_zero] at hst
  have HS := Lib.hid hst
  clear hst hT1 hb1
  go_wp2_with fail
  refine HS.out.mono ?_
  rintro e w2 ⟨rfl, hb2⟩
  have HT2 := Lib.hid (HT1.out.below hb2)
  have HB2 := Lib.hid (HB1.out.trans (hb2.mono HB1.out.size))
  have hg2 : w.heap.size < w2.heap.size := HT2.out.blk.lt
  clear hb2
  have hTT : TT w (w2.alloc (.cells #[.slice none 0 0, .int .i64 ((m : Nat) : Int)] 83)) w.heap.size w2.heap.size [] m := by
    have hb := (Below.refl w2.heap.size w2).alloc (Nat.le_refl _) (.cells #[.slice none 0 0, .int .i64 ((m : Nat) : Int)] 83)
    refine ⟨none, 0, none, 0, HT2.out.below hb, ⟨Blk.new w2 _ _, Nat.le_refl _, Reads.none_, Nat.zero_le _, hm, by simp⟩, HB2.out.trans (hb.mono HB2.out.size), ?_, HB2.out.size, ?_, fun x hx => by cases hx⟩
    · rintro k (rfl | ⟨a, ha, _⟩)
      · exact Nat.le_refl _
      · cases ha
    · rintro (h | ⟨a, ha, _⟩)
      · omega
      · cases ha
  have HTT := Lib.hid hTT
  have HG := Lib.hid hg
  have HRL := Lib.hid hrl
  have HFS := Lib.hid hfs
  have HRR := Lib.hid hr
  have HEE := Lib.hid hE
  clear hTT hg hrl hfs hr hE HT1 HT2 HB1 HB2 HS
  go_wp2_with fail
  generalize hq : w2.heap.size = q at *
  generalize hgg : w.heap.size = g0 at HTT
  go_loopg [12] (st.length + 1) (fun n i wr => ∃ k : Nat, k ≤ st.length ∧ n + k = st.length + 1 ∧ i = .int .i64 (k : Int) ∧ Hid (∃ xs mx, TT w wr w.heap.size q xs mx))
  case atStart =>
    subst hgg
    exact ⟨0, Nat.zero_le _, rfl, rfl, [], m, HTT.out⟩
  case round =>
    obtain ⟨k, hk, hnk, rfl, HR⟩ := hrel
    clear HTT
    subst hgg
    by_cases hlt : k < st.length
    · by_cases h60 : k < 60
      · obtain ⟨wo, rfl⟩ : ∃ wo : World, wo = wr := ⟨_, rfl⟩
        obtain ⟨xs, mx, hTT⟩ := HR.out
        have hB := hTT
        obtain ⟨_, _, _, _, _, _, hBw, _⟩ := hB
        have HT := Lib.hid hTT
        have HB := Lib.hid hBw
        have hrow : ∃ row, st[k] = row := ⟨_, rfl⟩
        obtain ⟨row, hrow⟩ := hrow
        have hrl : row.length ≤ 140737488355328 := by rw [← hrow]; exact HRL.out _ (List.getElem_mem hlt)
        have HROW := Lib.hid (fun (w1 : World) (hb : Below w.heap.size w w1) => by have := grid_row HG.out hb hlt; rw [hrow] at this; exact this)
        obtain ⟨sb, so, _, _, hSe, _⟩ := HROW.out _ HB.out
        subst hSe
        have hsz0 : w.heap.size ≤ wo.heap.size := HB.out.size
        clear hTT hBw hrow
        have hk60 : ((k : Nat) : Int) < 60 := by omega
        go_upto_block 2 with fail
        generalize hW0 : wo.alloc _ = W0
        have hV0 : Blk W0 wo.heap.size 69 #[.int .i64 0, .int .i64 0] := by rw [← hW0]; exact Blk.new wo _ _
        have hbW : Below wo.heap.size wo W0 := by rw [← hW0]; exact (Below.refl _ _).alloc (Nat.le_refl _) _
        have HV0 := Lib.hid hV0
        have HBW := Lib.hid hbW
        clear hV0 hbW hW0
        go_cut [14] from 50 to 221 (fun x wx => Blk wx wo.heap.size 69 #[.int .i64 (row.getD 0 0), .int .i64 (row.getD 1 0)] ∧ Below wo.heap.size wo wx)
        case first => as_aux_lemma =>
          go_wp2_with fail
          go_loopg [14] 3 (fun n x wx => ∃ j : Nat, j ≤ 2 ∧ j ≤ row.length ∧ n + j = 3 ∧ x = .int .i64 (j : Int) ∧ Hid (Blk wx wo.heap.size 69 #[.int .i64 (if 0 < j then row.getD 0 0 else 0), .int .i64 (if 1 < j then row.getD 1 0 else 0)]) ∧ Hid (Below wo.heap.size wo wx))
          case atStart => exact ⟨0, by omega, by omega, rfl, rfl, HV0.out, HBW.out⟩
          case round =>
            obtain ⟨j, hj2, hjr, hnj, rfl, HV, HBx⟩ := hrel
            obtain ⟨sb', so', R, d, hSe, hsbl, hrc, hrr⟩ := HROW.out _ (HB.out.trans (HBx.out.mono hsz0))
            cases hSe
            have hv0 := HV.out.cell 0
            have hv1 := HV.out.cell 1
            have hvf0 := HV.out.frozen 0
            have hvf1 := HV.out.frozen 1
            have hvl := HV.out.lt
            have HRR2 := Lib.hid hrr
            clear hrr
            by_cases hjl : j < row.length
            · by_cases hj : j < 2
              · obtain ⟨rb, ro, rfl, hrb, hcell⟩ := HRR2.out (by omega)
                have hcj := hcell j hjl
                have hgd : row.getD j 0 = row[j] := by rw [List.getD_eq_getElem?_getD, List.getElem?_eq_getElem hjl]; rfl
                have HGD := Lib.hid hgd
                clear hcell hgd
                rcases (by omega : j = 0 ∨ j = 1) with rfl | rfl
                · have hcj' : wr.cell? ⟨rb, ro, none⟩ = some (.int .i64 row[0]) := hcj
                  have hset := HV.out.set_ 0 (.int .i64 row[0])
                  have HSET := Lib.hid hset
                  have HBS := Lib.hid (HBx.out.setCell (p := ⟨wo.heap.size, 0, none⟩) (Nat.le_refl _) (.int .i64 row[0]))
                  clear hset
                  generalize row[0] = e0 at *
                  go_wp2
                  go_roundg (gk - 1)
                  case measure => omega
                  case rel => exact ⟨1, by omega, by omega, by omega, rfl, Lib.hid (by have := HSET.out; rw [HGD.out]; simpa using this), HBS⟩
                · have hset := HV.out.set_ 1 (.int .i64 row[1])
                  have HSET := Lib.hid hset
                  have HBS := Lib.hid (HBx.out.setCell (p := ⟨wo.heap.size, 1, none⟩) (Nat.le_refl _) (.int .i64 row[1]))
                  clear hset
                  generalize row[1] = e1 at *
                  go_wp2
                  go_roundg (gk - 1)
                  case measure => omega
                  case rel => exact ⟨2, by omega, by omega, by omega, rfl, Lib.hid (by have := HSET.out; rw [HGD.out]; simpa using this), HBS⟩
              · obtain rfl : j = 2 := by omega
                go_wp2
                go_meet
                exact ⟨by simpa using HV.out, HBx.out⟩
            · have hjj : j = row.length := by omega
              have hfin : Blk wr wo.heap.size 69 #[.int .i64 (row.getD 0 0), .int .i64 (row.getD 1 0)] := by
                have h0 : (if 0 < j then row.getD 0 0 else 0) = row.getD 0 0 := by
                  split
                  · rfl
                  · rw [List.getD_eq_getElem?_getD, List.getElem?_eq_none (by omega)]; rfl
                have h1 : (if 1 < j then row.getD 1 0 else 0) = row.getD 1 0 := by
                  split
                  · rfl
                  · rw [List.getD_eq_getElem?_getD, List.getElem?_eq_none (by omega)]; rfl
                rw [← h0, ← h1]
                exact HV.out
              have HFIN := Lib.hid hfin
              clear hjj hfin
              go_wp2
              go_meet
              exact ⟨HFIN.out, HBx.out⟩
        case rest => as_aux_lemma =>
          obtain ⟨hVc, hbc⟩ := hcut
          obtain ⟨a, ha⟩ : ∃ a, row.getD 0 0 = a := ⟨_, rfl⟩
          obtain ⟨b, hb⟩ : ∃ b, row.getD 1 0 = b := ⟨_, rfl⟩
          rw [ha, hb] at hVc
          have HVc := Lib.hid hVc
          have HBc := Lib.hid hbc
          clear ha hb hVc hbc HV0 HBW HROW
          go_upto_region 18 with fail
          obtain ⟨F, hF⟩ : ∃ F, wc.heap.size = F := ⟨_, rfl⟩
          have hWF : Blk (wc.alloc (.cells #[.string ⟨#[]⟩, .string ⟨#[]⟩] 86)) F 86 #[.string ⟨#[]⟩, .string ⟨#[]⟩] := by rw [← hF]; exact Blk.new _ _ _
          have hWV := HVc.out.alloc (.cells #[.string ⟨#[]⟩, .string ⟨#[]⟩] 86)
          have hWB := HBc.out.alloc HBc.out.size (.cells #[.string ⟨#[]⟩, .string ⟨#[]⟩] 86)
          have hFle : wo.heap.size ≤ F := by rw [← hF]; exact HBc.out.size
          have hVF : wo.heap.size < F := by rw [← hF]; exact HVc.out.lt
          generalize wc.alloc (.cells #[.string ⟨#[]⟩, .string ⟨#[]⟩] 86) = WF at *
          rw [hF]
          have HWF := Lib.hid hWF
          have HWV := Lib.hid hWV
          have HWB := Lib.hid hWB
          have v0 := hWV.cell 0
          have v1 := hWV.cell 1
          have vl := hWV.lt
          clear hWF hWV hWB hF
          go_cut [92] from 50 to 221 (fun x wx => x = .bool (decide (0 ≤ b ∧ b < ((l.length : Nat) : Int))) ∧ wx = WF)
          case first => as_aux_lemma =>
            by_cases h0 : 0 ≤ b
            · by_cases h1 : b < ((l.length : Nat) : Int)
              · go_wp2
                go_meet
                exact ⟨congrArg Value.bool (decide_eq_true (And.intro h0 h1)).symm, rfl⟩
              · have h2 : decide (b < ((l.length : Nat) : Int)) = false := by simpa using h1
                have H1 := Lib.hid h1
                go_wp2
                go_meet
                exact ⟨congrArg Value.bool (decide_eq_false (fun h => by have h3 := H1.out; have h4 := h.2; omega)).symm, rfl⟩
            · have h2 : decide (0 ≤ b) = false := by simpa using h0
              have H0 := Lib.hid h0
              go_wp2
              go_meet
              exact ⟨congrArg Value.bool (decide_eq_false (fun h => by have h3 := H0.out; have h4 := h.1; omega)).symm, rfl⟩
          case rest => as_aux_lemma =>
            obtain ⟨rfl, rfl⟩ := hcut
            rename_i WF
            go_upto_if 92 with fail
            go_cut [] from 50 to 221 (fun wx => Blk wx wo.heap.size 69 #[.int .i64 a, .int .i64 b] ∧ Blk wx F 86 #[.string ⟨(pick l b).1.toArray⟩, .string ⟨(pick l b).2.toArray⟩] ∧ Below wo.heap.size wo wx)
            case first => as_aux_lemma =>
              by_cases hin : 0 ≤ b ∧ b < ((l.length : Nat) : Int)
              · have hd : decide (0 ≤ b ∧ b < ((l.length : Nat) : Int)) = true := decide_eq_true hin
                obtain ⟨n, rfl⟩ := Int.eq_ofNat_of_zero_le hin.1
                have hn : n < l.length := by omega
                have hni : ((n : Nat) : Int) < ((l.length : Nat) : Int) := by omega
                obtain ⟨lb, lo, rfl, hlb, hcl⟩ := reads_fld (HRR.out.below (HB.out.trans (HWB.out.mono HB.out.size))) (by omega)
                obtain ⟨c0, c1⟩ := hcl n hn
                have hp := pick_in hn
                rw [← hp] at c0 c1
                have f0 := HWF.out.cell 0
                have f1 := HWF.out.cell 1
                have z0 := HWF.out.frozen 0
                have z1 := HWF.out.frozen 1
                have fl := HWF.out.lt
                have HS1 := Lib.hid ((HWF.out.set_ 0 (.string ⟨(pick l (n : Int)).1.toArray⟩)).set_ 1 (.string ⟨(pick l (n : Int)).2.toArray⟩))
                have HS2 := Lib.hid ((HWV.out.far (p := ⟨F, 0, none⟩) (by show wo.heap.size ≠ F; omega) (.string ⟨(pick l (n : Int)).1.toArray⟩)).far (p := ⟨F, 1, none⟩) (by show wo.heap.size ≠ F; omega) (.string ⟨(pick l (n : Int)).2.toArray⟩))
                have HS3 := Lib.hid ((HWB.out.setCell (p := ⟨F, 0, none⟩) hFle (.string ⟨(pick l (n : Int)).1.toArray⟩)).setCell (p := ⟨F, 1, none⟩) hFle (.string ⟨(pick l (n : Int)).2.toArray⟩))
                clear hcl hp
                generalize pick l (n : Int) = fx at *
                go_wp2
                go_meet
                exact ⟨HS2.out, HS1.out, HS3.out⟩
              · have hd : decide (0 ≤ b ∧ b < ((l.length : Nat) : Int)) = false := decide_eq_false hin
                go_wp2
                go_meet
                exact ⟨HWV.out, by rw [pick_out hin]; exact HWF.out, HWB.out⟩
            case rest => as_aux_lemma =>
              obtain ⟨hV, hF, hB2⟩ := hcut
              have hfok := pick_ok HFS.out b
              obtain ⟨f, hf⟩ : ∃ f, pick l b = f := ⟨_, rfl⟩
              rw [hf] at hF hfok
              have HTV := Lib.hid (HT.out.with hB2 hV hF (Nat.le_refl _) hFle)
              have HFO := Lib.hid hfok
              clear hV hF hB2 hf hfok HWF HWV HWB v0 v1 vl HT HVc HBc
              obtain ⟨v0, v1, p0, p1, _, qm⟩ := HTV.out.cells
              obtain ⟨vl, fl, ql, qf, _⟩ := HTV.out.lts
              go_upto_block 4 with fail
              go_cut [9, 10, 16, 17] from 50 to 221 (fun _ _ _ _ wx => ∃ ys my, TV w wx w.heap.size q wo.heap.size F ys my ys my a b f)
              case first => as_aux_lemma =>
                by_cases h0 : a = 0
                · subst h0
                  go_wp2_with fail
                  refine (tv_add HTV.out f HFO.out).mono ?_
                  rintro e w4 ⟨rfl, h4⟩
                  obtain ⟨_, _, p0, p1, _, _⟩ := h4.cells
                  obtain ⟨_, fl, _, _, _⟩ := h4.lts
                  have H4 := Lib.hid h4
                  clear h4
                  go_wp2_with fail
                  refine (tv_radd H4.out f HFO.out).mono ?_
                  rintro e w5 ⟨rfl, h5⟩
                  have H5 := Lib.hid h5
                  clear h5 H4
                  generalize decide (fsz f ≤ mx) = dd at *
                  go_wp2
                  go_meet
                  exact ⟨_, _, H5.out⟩
                by_cases h1 : a = 1
                · subst h1
                  go_wp2_with fail
                  refine (tv_add HTV.out f HFO.out).mono ?_
                  rintro e w4 ⟨rfl, h4⟩
                  obtain ⟨_, _, p0, p1, _, _⟩ := h4.cells
                  obtain ⟨_, fl, _, _, _⟩ := h4.lts
                  have H4 := Lib.hid h4
                  clear h4
                  go_wp2_with fail
                  refine (tv_radd H4.out f HFO.out).mono ?_
                  rintro e w5 ⟨rfl, h5⟩
                  have H5 := Lib.hid h5
                  clear h5 H4
                  generalize decide (fsz f ≤ mx) = dd at *
                  go_wp2
                  go_meet
                  exact ⟨_, _, H5.out⟩
                by_cases h2 : a = 2
                · subst h2
                  go_wp2_with fail
                  refine (tv_add HTV.out f HFO.out).mono ?_
                  rintro e w4 ⟨rfl, h4⟩
                  obtain ⟨_, _, p0, p1, _, _⟩ := h4.cells
                  obtain ⟨_, fl, _, _, _⟩ := h4.lts
                  have H4 := Lib.hid h4
                  clear h4
                  go_wp2_with fail
                  refine (tv_radd H4.out f HFO.out).mono ?_
                  rintro e w5 ⟨rfl, h5⟩
                  have H5 := Lib.hid h5
                  clear h5 H4
                  generalize decide (fsz f ≤ mx) = dd at *
                  go_wp2
                  go_meet
                  exact ⟨_, _, H5.out⟩
                by_cases h3 : a = 3
                · subst h3
                  by_cases hb0 : 0 ≤ b
                  · by_cases hb1 : b ≤ 4096
                    · obtain ⟨n, rfl⟩ := Int.eq_ofNat_of_zero_le hb0
                      have hn : n ≤ 4096 := by omega
                      have hm1 := tv_rmax HTV.out n hn
                      obtain ⟨v0', v1', _, _, _, _⟩ := hm1.cells
                      have HM1 := Lib.hid hm1
                      clear hm1
                      go_wp2_with fail
                      refine (tv_rshrink HM1.out n hn).mono ?_
                      rintro e w4 ⟨rfl, h4⟩
                      obtain ⟨v0, v1, _, _, _, _⟩ := h4.cells
                      have H4 := Lib.hid h4
                      clear h4
                      go_wp2_with fail
                      refine (tv_resize H4.out n hn).mono ?_
                      rintro e w5 ⟨rfl, h5⟩
                      have hE5 : ErrType w5 := HEE.out.next (by obtain ⟨_, _, _, _, _, _, hb, _⟩ := h5; exact hb)
                      have hst := same_true 0 w5 hE5
                      rw [errV_zero] at hst
                      have HST := Lib.hid hst
                      have H5 := Lib.hid h5
                      clear h5 hst hE5
                      go_wp2_with fail
                      refine HST.out.mono ?_
                      rintro e w6 ⟨rfl, hb6⟩
                      have H6 := Lib.hid (H5.out.next hb6)
                      clear hb6
                      go_wp2
                      go_meet
                      exact ⟨_, _, H6.out⟩
                    · have hb2 : decide (b ≤ 4096) = false := by simpa using hb1
                      have HB1 := Lib.hid (show b < 0 ∨ 4096 < b by omega)
                      go_wp2_with fail
                      refine (resize_no w.heap.size b HB1.out).mono ?_
                      rintro e w5 ⟨rfl, rfl⟩
                      have hE5 : ErrType wc := HEE.out.next (by obtain ⟨_, _, _, _, _, _, hb, _⟩ := HTV.out; exact hb)
                      have hst := same_true 1 wc hE5
                      rw [errV_pos (by decide)] at hst
                      have HST := Lib.hid hst
                      clear hst hE5
                      go_wp2_with fail
                      refine HST.out.mono ?_
                      rintro e w6 ⟨rfl, hb6⟩
                      have H6 := Lib.hid (HTV.out.next hb6)
                      clear hb6
                      go_wp2
                      go_meet
                      exact ⟨_, _, H6.out⟩
                  · have hb2 : decide (0 ≤ b) = false := by simpa using hb0
                    have HB1 := Lib.hid (show b < 0 ∨ 4096 < b by omega)
                    go_wp2_with fail
                    refine (resize_no w.heap.size b HB1.out).mono ?_
                    rintro e w5 ⟨rfl, rfl⟩
                    have hE5 : ErrType wc := HEE.out.next (by obtain ⟨_, _, _, _, _, _, hb, _⟩ := HTV.out; exact hb)
                    have hst := same_true 1 wc hE5
                    rw [errV_pos (by decide)] at hst
                    have HST := Lib.hid hst
                    clear hst hE5
                    go_wp2_with fail
                    refine HST.out.mono ?_
                    rintro e w6 ⟨rfl, hb6⟩
                    have H6 := Lib.hid (HTV.out.next hb6)
                    clear hb6
                    go_wp2
                    go_meet
                    exact ⟨_, _, H6.out⟩
                · have d0 : (a == 0) = false := by simpa using h0
                  have d1 : (a == 1) = false := by simpa using h1
                  have d2 : (a == 2) = false := by simpa using h2
                  have d3 : (a == 3) = false := by simpa using h3
                  go_wp2
                  go_meet
                  exact ⟨_, _, HTV.out⟩
              case rest => as_aux_lemma =>
                obtain ⟨ys, my, h3⟩ := hcut
                clear HTV v0 v1 p0 p1 qm vl fl ql qf
                obtain ⟨_, _, p0, p1, _, _⟩ := h3.cells
                obtain ⟨_, fl, _, _, _⟩ := h3.lts
                have H3 := Lib.hid h3
                clear h3
                go_wp2_with fail
                refine (tv_find H3.out f HFO.out).mono ?_
                rintro e w4 ⟨rfl, hb4⟩
                have h4 := H3.out.next hb4
                obtain ⟨_, _, p0, p1, _, _⟩ := h4.cells
                obtain ⟨_, fl, _, _, _⟩ := h4.lts
                have H4 := Lib.hid h4
                clear h4 hb4 H3
                go_wp2_with fail
                refine (tv_rfind H4.out f HFO.out).mono ?_
                rintro e w5 ⟨rfl, hb5⟩
                have H5 := Lib.hid (H4.out.next hb5)
                clear hb5 H4
                generalize fnd (isF f) (tAll ys) = n1 at *
                generalize fnd (isN f) (tAll ys) = n2 at *
                go_wp2_with fail
                refine (tv_rall H5.out).mono ?_
                rintro e w6 ⟨B, d, rfl, hd, hrd, hb6⟩
                have h6 := H5.out.next hb6
                obtain ⟨B', d', r0, hrr, hok6, hwt6⟩ := tv_rows h6
                have hxl := (tv_xlen h6).1
                have hmy := (tv_xlen h6).2
                obtain ⟨_, _, _, _, _, r1⟩ := h6.cells
                have HRD := Lib.hid hrd
                have HRR6 := Lib.hid hrr
                have HOK6 := Lib.hid hok6
                have HWT6 := Lib.hid hwt6
                have H6 := Lib.hid h6
                have R0 := Lib.hid r0
                have R1 := Lib.hid r1
                clear h6 hrd hrr hok6 hwt6 hb6 H5 r0 r1
                go_wp2_with fail
                refine quiet_in (fun w' => TV w w' w.heap.size q wo.heap.size F ys my ys my a b f ∧ Below w6.heap.size w6 w') (by kernel_rfl) (by kernel_rfl) ?_ fun hne => ?_
                · exact ⟨H6.out.next ⟨rfl, rfl, rfl, Nat.le_refl _, fun _ _ => rfl⟩, ⟨rfl, rfl, rfl, Nat.le_refl _, fun _ _ => rfl⟩⟩
                have x0 : ∀ x : WIn (fun w' => TV w w' w.heap.size q wo.heap.size F ys my ys my a b f ∧ Below w6.heap.size w6 w'), x.w.cell? ⟨q, 0, none⟩ = some (.slice B' ys.length d') := fun x => cell_behind x.h.2 R0.out
                have x1 : ∀ x : WIn (fun w' => TV w w' w.heap.size q wo.heap.size F ys my ys my a b f ∧ Below w6.heap.size w6 w'), x.w.cell? ⟨q, 1, none⟩ = some (.int .i64 ((my : Nat) : Int)) := fun x => cell_behind x.h.2 R1.out
                repeat (first | go_big_quiet_skip | (go_big_quiet_want; go_big_quiet_op; go_big_quiet_on))
                go_big_quiet_want
                go_big_quiet_op
                refine ⟨_, fun x => quiet_call (tv_len2 x.h.1) (fun e w9 h9 => ⟨h9.1, x.h.1.next h9.2, x.h.2.trans (h9.2.mono x.h.2.size)⟩), ?_⟩
                go_big_quiet_on
                repeat (first | go_big_quiet_skip | (go_big_quiet_want; go_big_quiet_op; go_big_quiet_on))
                go_big_quiet_want
                go_big_quiet_op
                refine ⟨_, fun x => quiet_call (tv_size x.h.1) (fun e w9 h9 => ⟨h9.1, h9.2 ▸ x.h⟩), ?_⟩
                go_big_quiet_on
                repeat (first | go_big_quiet_skip | (go_big_quiet_want; go_big_quiet_op; go_big_quiet_on))
                go_big_quiet_want
                go_big_quiet_op
                refine ⟨_, fun x => quiet_call (rweight_any ys HOK6.out (by have := HWT6.out; omega) B' _ _ rfl x.w ((HRR6.out.below x.h.2).more x.h.2.size)) (fun e w9 h9 => ⟨h9.1, x.h.1.next h9.2, x.h.2.trans (h9.2.mono x.h.2.size)⟩), ?_⟩
                go_big_quiet_on
                repeat (first | go_big_quiet_skip | (go_big_quiet_want; go_big_quiet_op; go_big_quiet_on))
                go_big_quiet_want
                go_big_quiet_op
                refine ⟨_, fun x => quiet_call (tv_max x.h.1) (fun e w9 h9 => ⟨h9.1, h9.2 ▸ x.h⟩), ?_⟩
                go_big_quiet_on
                repeat (first | go_big_quiet_skip | (go_big_quiet_want; go_big_quiet_op; go_big_quiet_on))
                refine wpQuiet_nil ?_
                intro w7 hw7
                have hC7 : TV w w7 w.heap.size q wo.heap.size F ys my ys my a b f ∧ Below w6.heap.size w6 w7 := by
                  obtain ⟨x, hx⟩ := hw7
                  rw [hx]
                  exact x.h
                clear hne hw7 x0 x1
                have h7 := hC7.1
                obtain ⟨v0, v1, _, _, _, _⟩ := h7.cells
                obtain ⟨vl, _, _, _, _⟩ := h7.lts
                have H7 := Lib.hid h7
                have HB67 := Lib.hid hC7.2
                have hL := tAll_len ys
                have HL := Lib.hid hL
                clear hC7 h7
                by_cases hin : 1 ≤ b ∧ b ≤ (((tAll ys).length : Nat) : Int)
                · obtain ⟨n, rfl⟩ : ∃ n : Nat, b = (n : Int) + 1 := ⟨(b - 1).toNat, by omega⟩
                  have hn : n < (tAll ys).length := by omega
                  obtain ⟨x, hx⟩ : ∃ x, (tAll ys).getD n ([], []) = x := ⟨_, rfl⟩
                  have HX := Lib.hid hx
                  have hi1 : (1 : Int) ≤ (n : Int) + 1 := by omega
                  have hi2 : (n : Int) + 1 ≤ (((tAll ys).length : Nat) : Int) := by omega
                  clear hx hin
                  go_wp2_with fail
                  refine (tv_get_yes H7.out n (by rw [← HL.out]; exact hn) x HX.out).mono ?_
                  rintro e w8 ⟨rfl, hb8⟩
                  have h8 := H7.out.next hb8
                  obtain ⟨v0, v1, _, _, _, _⟩ := h8.cells
                  obtain ⟨vl, _, _, _, _⟩ := h8.lts
                  obtain ⟨bb, bo, hBe, hbb, hcl⟩ := reads_fld ((HRD.out.below (HB67.out.trans (hb8.mono HB67.out.size))).more (Nat.le_trans HB67.out.size hb8.size)) (by omega)
                  subst hBe
                  obtain ⟨c0, c1⟩ := hcl n hn
                  have hxe : (tAll ys)[n] = x := by
                    have := HX.out
                    rw [List.getD_eq_getElem?_getD, List.getElem?_eq_getElem hn] at this
                    exact this
                  rw [hxe] at c0 c1
                  have H8 := Lib.hid h8
                  have hE8 : ErrType w8 := HEE.out.next (by obtain ⟨_, _, _, _, _, _, hb, _⟩ := h8; exact hb)
                  have HE8 := Lib.hid hE8
                  clear h8 hb8 hcl hxe hE8
                  go_wp2_with fail
                  have hbX := ((Below.refl w8.heap.size w8).alloc (Nat.le_refl _) (.cells #[.string ⟨x.1.toArray⟩, .string ⟨x.2.toArray⟩] 86)).alloc (by simp) (.cells #[.string ⟨x.1.toArray⟩, .string ⟨x.2.toArray⟩] 86)
                  have hX1 : Blk ((w8.alloc (.cells #[.string ⟨x.1.toArray⟩, .string ⟨x.2.toArray⟩] 86)).alloc (.cells #[.string ⟨x.1.toArray⟩, .string ⟨x.2.toArray⟩] 86)) w8.heap.size 86 #[.string ⟨x.1.toArray⟩, .string ⟨x.2.toArray⟩] := (Blk.new w8 _ _).alloc _
                  have hY1 : Blk ((w8.alloc (.cells #[.string ⟨x.1.toArray⟩, .string ⟨x.2.toArray⟩] 86)).alloc (.cells #[.string ⟨x.1.toArray⟩, .string ⟨x.2.toArray⟩] 86)) (w8.heap.size + 1) 86 #[.string ⟨x.1.toArray⟩, .string ⟨x.2.toArray⟩] := by
                    have := Blk.new (w8.alloc (.cells #[.string ⟨x.1.toArray⟩, .string ⟨x.2.toArray⟩] 86)) 86 #[.string ⟨x.1.toArray⟩, .string ⟨x.2.toArray⟩]
                    rwa [World.size_alloc] at this
                  have hst := same_true 0 _ (HE8.out.next hbX)
                  rw [errV_zero] at hst
                  have HST := Lib.hid hst
                  have HX1 := Lib.hid hX1
                  have HY1 := Lib.hid hY1
                  have H9 := Lib.hid (H8.out.next hbX)
                  clear hbX hX1 hY1 hst
                  generalize ((w8.alloc (.cells #[.string ⟨x.1.toArray⟩, .string ⟨x.2.toArray⟩] 86)).alloc (.cells #[.string ⟨x.1.toArray⟩, .string ⟨x.2.toArray⟩] 86)) = W8 at *
                  refine HST.out.mono ?_
                  rintro e w9 ⟨rfl, hb9⟩
                  have hx9 := HX1.out.below hb9 HX1.out.lt
                  have hy9 := HY1.out.below hb9 HY1.out.lt
                  have xa := hx9.cell 0
                  have xb := hx9.cell 1
                  have ya := hy9.cell 0
                  have yb := hy9.cell 1
                  have H10 := Lib.hid (H9.out.next hb9).back
                  clear hb9 hx9 hy9
                  go_wp2
                  go_roundg (gk - 1)
                  case measure => omega
                  case rel => exact ⟨k + 1, by omega, by omega, by go_num, ys, my, H10.out⟩
                · have HO : Hid (b < 1 ∨ ((12 + ys.length : Nat) : Int) < b) := by
                    rw [← HL.out]
                    exact (by omega : b < 1 ∨ (((tAll ys).length : Nat) : Int) < b)
                  rcases (by omega : b < 1 ∨ (1 ≤ b ∧ (((tAll ys).length : Nat) : Int) < b)) with hi1 | ⟨hi0, hi1⟩
                  · have hd1 : decide (1 ≤ b) = false := by simp; omega
                    clear hin
                    go_wp2_with fail
                    refine (tv_get_no H7.out b HO.out).mono ?_
                    rintro e w8 ⟨rfl, hb8⟩
                    have h8 := H7.out.next hb8
                    obtain ⟨v0, v1, _, _, _, _⟩ := h8.cells
                    obtain ⟨vl, _, _, _, _⟩ := h8.lts
                    have H8 := Lib.hid h8
                    have hE8 : ErrType w8 := HEE.out.next (by obtain ⟨_, _, _, _, _, _, hb, _⟩ := h8; exact hb)
                    have HE8 := Lib.hid hE8
                    clear h8 hb8 hE8
                    go_wp2_with fail
                    have hbX := ((Below.refl w8.heap.size w8).alloc (Nat.le_refl _) (.cells #[.string ⟨#[]⟩, .string ⟨#[]⟩] 86)).alloc (by simp) (.cells #[.string ⟨#[]⟩, .string ⟨#[]⟩] 86)
                    have hX1 : Blk ((w8.alloc (.cells #[.string ⟨#[]⟩, .string ⟨#[]⟩] 86)).alloc (.cells #[.string ⟨#[]⟩, .string ⟨#[]⟩] 86)) w8.heap.size 86 #[.string ⟨#[]⟩, .string ⟨#[]⟩] := (Blk.new w8 _ _).alloc _
                    have hY1 : Blk ((w8.alloc (.cells #[.string ⟨#[]⟩, .string ⟨#[]⟩] 86)).alloc (.cells #[.string ⟨#[]⟩, .string ⟨#[]⟩] 86)) (w8.heap.size + 1) 86 #[.string ⟨#[]⟩, .string ⟨#[]⟩] := by
                      have := Blk.new (w8.alloc (.cells #[.string ⟨#[]⟩, .string ⟨#[]⟩] 86)) 86 #[.string ⟨#[]⟩, .string ⟨#[]⟩]
                      rwa [World.size_alloc] at this
                    have hst := same_true 5 _ (HE8.out.next hbX)
                    rw [errV_pos (by decide)] at hst
                    have HST := Lib.hid hst
                    have HX1 := Lib.hid hX1
                    have HY1 := Lib.hid hY1
                    have H9 := Lib.hid (H8.out.next hbX)
                    clear hbX hX1 hY1 hst
                    generalize ((w8.alloc (.cells #[.string ⟨#[]⟩, .string ⟨#[]⟩] 86)).alloc (.cells #[.string ⟨#[]⟩, .string ⟨#[]⟩] 86)) = W8 at *
                    refine HST.out.mono ?_
                    rintro e w9 ⟨rfl, hb9⟩
                    have hx9 := HX1.out.below hb9 HX1.out.lt
                    have hy9 := HY1.out.below hb9 HY1.out.lt
                    have xa := hx9.cell 0
                    have xb := hx9.cell 1
                    have ya := hy9.cell 0
                    have yb := hy9.cell 1
                    have H10 := Lib.hid (H9.out.next hb9).back
                    clear hb9 hx9 hy9
                    go_wp2
                    go_roundg (gk - 1)
                    case measure => omega
                    case rel => exact ⟨k + 1, by omega, by omega, by go_num, ys, my, H10.out⟩
                  · have hd1 : decide (b ≤ (((tAll ys).length : Nat) : Int)) = false := by simp; omega
                    have hd2 : decide (b ≤ 12 + ((ys.length : Nat) : Int)) = false := by have := HL.out; simp; omega
                    clear hin
                    go_wp2_with fail
                    refine (tv_get_no H7.out b HO.out).mono ?_
                    rintro e w8 ⟨rfl, hb8⟩
                    have h8 := H7.out.next hb8
                    obtain ⟨v0, v1, _, _, _, _⟩ := h8.cells
                    obtain ⟨vl, _, _, _, _⟩ := h8.lts
                    have H8 := Lib.hid h8
                    have hE8 : ErrType w8 := HEE.out.next (by obtain ⟨_, _, _, _, _, _, hb, _⟩ := h8; exact hb)
                    have HE8 := Lib.hid hE8
                    clear h8 hb8 hE8
                    go_wp2_with fail
                    have hbX := ((Below.refl w8.heap.size w8).alloc (Nat.le_refl _) (.cells #[.string ⟨#[]⟩, .string ⟨#[]⟩] 86)).alloc (by simp) (.cells #[.string ⟨#[]⟩, .string ⟨#[]⟩] 86)
                    have hX1 : Blk ((w8.alloc (.cells #[.string ⟨#[]⟩, .string ⟨#[]⟩] 86)).alloc (.cells #[.string ⟨#[]⟩, .string ⟨#[]⟩] 86)) w8.heap.size 86 #[.string ⟨#[]⟩, .string ⟨#[]⟩] := (Blk.new w8 _ _).alloc _
                    have hY1 : Blk ((w8.alloc (.cells #[.string ⟨#[]⟩, .string ⟨#[]⟩] 86)).alloc (.cells #[.string ⟨#[]⟩, .string ⟨#[]⟩] 86)) (w8.heap.size + 1) 86 #[.string ⟨#[]⟩, .string ⟨#[]⟩] := by
                      have := Blk.new (w8.alloc (.cells #[.string ⟨#[]⟩, .string ⟨#[]⟩] 86)) 86 #[.string ⟨#[]⟩, .string ⟨#[]⟩]
                      rwa [World.size_alloc] at this
                    have hst := same_true 5 _ (HE8.out.next hbX)
                    rw [errV_pos (by decide)] at hst
                    have HST := Lib.hid hst
                    have HX1 := Lib.hid hX1
                    have HY1 := Lib.hid hY1
                    have H9 := Lib.hid (H8.out.next hbX)
                    clear hbX hX1 hY1 hst
                    generalize ((w8.alloc (.cells #[.string ⟨#[]⟩, .string ⟨#[]⟩] 86)).alloc (.cells #[.string ⟨#[]⟩, .string ⟨#[]⟩] 86)) = W8 at *
                    refine HST.out.mono ?_
                    rintro e w9 ⟨rfl, hb9⟩
                    have hx9 := HX1.out.below hb9 HX1.out.lt
                    have hy9 := HY1.out.below hb9 HY1.out.lt
                    have xa := hx9.cell 0
                    have xb := hx9.cell 1
                    have ya := hy9.cell 0
                    have yb := hy9.cell 1
                    have H10 := Lib.hid (H9.out.next hb9).back
                    clear hb9 hx9 hy9
                    go_wp2
                    go_roundg (gk - 1)
                    case measure => omega
                    case rel => exact ⟨k + 1, by omega, by omega, by go_num, ys, my, H10.out⟩
      · obtain ⟨xs, mx, hTT⟩ := HR.out
        have HB := Lib.hid (by obtain ⟨_, _, _, _, _, _, hb, _⟩ := hTT; exact hb : Below w.heap.size w wr)
        have hd60 : decide ((k : Int) < 60) = false := by simp; omega
        clear hTT
        go_wp2
        go_ret
        exact ⟨rfl, HB.out⟩
    · obtain ⟨xs, mx, hTT⟩ := HR.out
      have HB := Lib.hid (by obtain ⟨_, _, _, _, _, _, hb, _⟩ := hTT; exact hb : Below w.heap.size w wr)
      clear hTT
      go_wp2
      go_ret
      exact ⟨rfl, HB.out⟩
end Go.Proofs.YtkbbkamnmdeagaaDoor
