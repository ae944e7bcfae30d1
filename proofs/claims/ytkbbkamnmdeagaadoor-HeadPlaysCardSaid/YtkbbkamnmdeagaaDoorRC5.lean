/-
  The reference's coder: decode, every way. Condition: the bound on the bytes; the bytes are none of the coder's own block.
-/
import Derived.Test.YtkbbkamnmdeagaaDoorRC4
namespace Go.Proofs.YtkbbkamnmdeagaaDoor
open Go.RowKit
attribute [local go_sem ↓] Go.wp_at_zero Go.wp_at_succ

theorem heard_bad {most : Nat} {xs : List Fld} {mx : Nat} {l : List Fld} {b : List UInt8} {E : Nat} {r : Step} (hb : b ≠ []) (h : heard most xs mx l b = r) (h0 : (heardS most xs mx l b).e = E) (hE : E ≠ 0) : r.e = E := by
  rw [← h, heard_fault hb (by rw [h0]; exact hE)]
  exact h0
theorem heard_on {most : Nat} {xs ys : List Fld} {mx my n : Nat} {l l2 : List Fld} {b : List UInt8} {r : Step} (hb : b ≠ []) (h : heard most xs mx l b = r) (h0 : heardS most xs mx l b = ⟨0, ys, my, l2, n⟩) : heard most ys my l2 (b.drop n) = r := by
  have h1 := heard_next (most := most) (xs := xs) (mx := mx) (l := l) hb (by rw [h0])
  rw [h0] at h1
  rw [← h1]
  exact h
/-- What decode hands back. -/
def RDecd (O : Nat → Prop) (w w' : World) (M most : Nat) (e : Ending) (r : Step) : Prop :=
  (r.e = 0 ∧ (∃ A2 n2 c2, e = .returned (.tuple #[.slice A2 n2 c2, .int .i64 0]) ∧ n2 = r.l.length ∧ w'.ownsRow w.heap.size 86 2 (.slice A2 n2 c2) n2 (fvs r.l)) ∧ RInDone O w w' M r.xs r.mx most false) ∨
  (r.e ≠ 0 ∧ e = .returned (.tuple #[.slice none 0 0, .int .i64 ((r.e : Nat) : Int)]) ∧ RInBad w w' M false)
theorem rdecd_bad {O : Nat → Prop} {w w' : World} {M most E : Nat} {r : Step} (hr : r.e = E) (hE : E ≠ 0) (hb : RInBad w w' M false) : RDecd O w w' M most (.returned (.tuple #[.slice none 0 0, .int .i64 ((E : Nat) : Int)])) r := by
  right
  rw [hr]
  exact ⟨hE, rfl, hb⟩

set_option maxRecDepth 100000 in
set_option maxHeartbeats 40000000 in
theorem rdec_any {w : World} {M : Nat} {A : Option Addr} {c : Nat} {ys : List Fld} {my most : Nat} (H : RIn w M A c ys my most false) (hA : ∀ a, A = some a → a.block < w.heap.size) {O : Nat → Prop} (hO : ∀ a, A = some a → O a.block) (hmost : most ≤ 4096) (b : List UInt8) (LA : Option Addr) (n lc : Nat) (hn : n = b.length) (hcap : b.length ≤ lc) (hm : b.length ≤ 140737488355328) (hr : Reads w w.heap.size 1 LA b.length (bs b)) (hBM : ∀ ad, LA = some ad → ad.block ≠ M) (r : Step) (hH : heard most ys my [] b = r) :
    Calls Tryd.prog 93 #[.pointer (some ⟨M, 0, none⟩), .slice LA n lc] w fun e w' => RDecd O w w' M most e r := by
  subst hn
  have hD0 : RD O w w M A c ys my most (.slice none 0 0) [] := ⟨H, World.ownsRow_nil _ _ _ _, Keep.refl _ _, H.cells.2.2.2.2.2, fun a ha => ⟨by simp [Value.ownBlock], hA a ha⟩, fun a ha => .inl (hO a ha)⟩
  have HD0 := Lib.hid hD0
  have HH := Lib.hid hH
  have HR := Lib.hid hr
  have HBM := Lib.hid hBM
  obtain ⟨i0, hi, hz0, hz1, hz2⟩ := info_parts fld_info
  have HI := Lib.hid hi
  have HZ0 := Lib.hid hz0
  have HZ1 := Lib.hid hz1
  have HZ2 := Lib.hid hz2
  clear hD0 hH H hr hBM hi hz0 hz1 hz2 hA hO
  go_enter Tryd.func93, Tryd.ntmps93
  go_wp2_with fail
  go_loopg [1, 6] b.length (fun n bv v wr => ∃ bk yk mk acc A' c' LAk lck, Hid (bk.length = n) ∧ bk.length ≤ 140737488355328 ∧ bk.length ≤ lck ∧ bv = .slice LAk bk.length lck ∧ Hid (Reads w w.heap.size 1 LAk bk.length (bs bk)) ∧ Hid (∀ ad, LAk = some ad → ad.block ≠ M) ∧ Hid (RD O w wr M A' c' yk mk most v acc) ∧ Hid (heard most yk mk acc bk = r) ∧ Hid (tooMuch acc = false))
  case atStart => exact ⟨b, ys, my, [], A, c, LA, lc, rfl, hm, hcap, rfl, HR.out, HBM.out, HD0.out, HH.out, rfl⟩
  case round =>
    obtain ⟨bk, yk, mk, acc, A', c', LAk, lck, HLEN, hbm, hbc, rfl, HRk, HBk, HD, HHk, HTA⟩ := hrel
    clear hcap hm
    rcases Nat.eq_zero_or_pos bk.length with h0 | h0
    · have hb0 : bk = [] := List.eq_nil_of_length_eq_zero h0
      subst hb0
      have hh := HHk.out
      rw [heard_nil] at hh
      obtain ⟨VA, vc, hv⟩ := own_slice HD.out.row
      have hrow := HD.out.row
      rw [hv] at hrow
      have HFIN := Lib.hid (show RDecd O w wr M most (.returned (.tuple #[.slice VA acc.length vc, .int .i64 0])) r from .inl (by rw [← hh]; exact ⟨rfl, ⟨VA, _, vc, rfl, rfl, hrow⟩, HD.out.done⟩))
      clear hrow h0 hh
      subst hv
      go_wp2
      go_ret2
      exact HFIN.out
    · have hne : bk ≠ [] := fun e => by rw [e] at h0; simp at h0
      have HNE := Lib.hid hne
      have hrb := (reads_keep HRk.out HD.out.kp (Nat.le_refl _) HBk.out).more HD.out.kp.size
      obtain ⟨bb, off, yv, hLA, hbB, hc0, hhd, -⟩ := reads_head hrb h0
      subst hLA
      obtain ⟨y0, hy0⟩ : ∃ y0, (bk.headD 0).toNat = y0 := ⟨_, rfl⟩
      have hc1 : wr.cell? ⟨bb, off, none⟩ = some (.int .u8 ((y0 : Nat) : Int)) := by rw [hc0, ← hy0, hhd]
      have HY0 := Lib.hid hy0
      have HRB := Lib.hid hrb
      have h0i : (0 : Int) < ((bk.length : Nat) : Int) := by omega
      have hF := HD.out.fld (.string ⟨#[]⟩) (.string ⟨#[]⟩)
      have hba : Below wr.heap.size wr (wr.alloc (.cells #[.string ⟨#[]⟩, .string ⟨#[]⟩] 86)) := (Below.refl _ _).alloc (Nat.le_refl _) _
      have hrb1 := (hrb.below hba).more hba.size
      obtain ⟨F, hFF⟩ : ∃ F, wr.heap.size = F := ⟨_, rfl⟩
      obtain ⟨W1, hW1⟩ : ∃ W1, wr.alloc (.cells #[.string ⟨#[]⟩, .string ⟨#[]⟩] 86) = W1 := ⟨_, rfl⟩
      rw [hFF, hW1] at hF
      rw [hW1] at hrb1
      have HF := Lib.hid hF
      have HRB1 := Lib.hid hrb1
      have HW1 := Lib.hid hW1
      have HFF := Lib.hid hFF
      clear hF hW1 hFF hba hrb hrb1 hc0 hhd hy0 hne
      go_upto_region 5 with fail
      rw [HW1.out, HFF.out]
      clear hc1 h0i hbB
      have hy8 : y0 < 256 := by have := HY0.out; have h2 := (bk.headD 0).toNat_lt; omega
      go_upto_region 7 with fail
      go_upto_if 25 with fail
      go_cut [1, 9, 10] from 25 to 112 (fun bv nv ev wx => (∃ E : Nat, E ≠ 0 ∧ ev = .int .i64 ((E : Nat) : Int) ∧ r.e = E ∧ RInBad w wx M false) ∨ (∃ (U : Nat) (f : Fld) (y2 : List Fld) (A2 : Option Addr) (c2 : Nat), bv = .slice (some ⟨bb, off, none⟩) bk.length lck ∧ nv = .int .i64 ((U : Nat) : Int) ∧ ev = .int .i64 0 ∧ fOk f ∧ 0 < U ∧ U ≤ bk.length ∧ heardS most yk mk acc bk = pushF y2 mk acc f U ∧ RDF O w wx M A2 c2 y2 mk most u6 acc F (.string ⟨f.1.toArray⟩) (.string ⟨f.2.toArray⟩)))
      case first => as_aux_lemma =>
       by_cases h128 : 128 ≤ y0
       · have i1 : (127 : Int) < ((y0 : Nat) : Int) := by omega
         have i2 := decide_eq_true i1
         rcases heardS_hi_all (most := most) (xs := yk) (mx := mk) (l := acc) (b := bk) (by rw [HY0.out]; exact h128) with ⟨E, hE, hS, hg⟩ | ⟨k, U, hg, hk, hS⟩
         · have HFB := Lib.hid (heard_bad HNE.out HHk.out hS hE)
           have HE := Lib.hid hE
           rcases hg with hg | ⟨N, U, hg, hN, rfl⟩
           · have HG := Lib.hid hg
             have hE' : ¬ ((E : Nat) : Int) = 0 := by omega
             have hE2 : (((E : Nat) : Int) == 0) = false := by simpa using hE
             have hE3 : (((E : Nat) : Int) != 0) = true := by simpa using hE
             clear hg hS hE
             go_wp2_with fail
             refine (rget_any bk 7 _ _ lck rfl hbm _ _ HRB1.out).mono ?_
             rintro e w' ⟨rfl, rfl⟩
             rw [HG.out]
             go_wp2_with fail
             refine (rd_all HF.out.d).mono ?_
             rintro e w2 ⟨B2, d2, rfl, hd2, hr2, hb2⟩
             have HFIN := Lib.hid (HF.out.next hb2).d.bad
             clear hd2 hr2 hb2
             go_wp2
             go_meet
             exact .inl ⟨_, HE.out, rfl, HFB.out, HFIN.out⟩
           · have HG := Lib.hid hg
             have HTL := Lib.hid (tAll_len yk)
             clear hg hS hE
             by_cases hN1 : N < 1
             · have j1 : ((N : Nat) : Int) < 1 := by omega
               have j2 := decide_eq_true j1
               have j3 := decide_eq_true hN1
               clear hN
               go_wp2_with fail
               refine (rget_any bk 7 _ _ lck rfl hbm _ _ HRB1.out).mono ?_
               rintro e w' ⟨rfl, rfl⟩
               rw [HG.out]
               go_wp2_with fail
               refine (rd_all HF.out.d).mono ?_
               rintro e w2 ⟨B2, d2, rfl, hd2, hr2, hb2⟩
               have HFIN := Lib.hid (HF.out.next hb2).d.bad
               clear hd2 hr2 hb2
               go_wp2
               go_meet
               exact .inl ⟨_, HE.out, rfl, HFB.out, HFIN.out⟩
             · have j1 : ¬ ((N : Nat) : Int) < 1 := by omega
               have j2 := decide_eq_false j1
               have j3 := decide_eq_false hN1
               have hNt : (tAll yk).length < N := by have := HTL.out; omega
               have j4 : (((tAll yk).length : Nat) : Int) < ((N : Nat) : Int) := by omega
               have j5 := decide_eq_true j4
               have j6 := decide_eq_true hNt
               clear hN
               go_wp2_with fail
               refine (rget_any bk 7 _ _ lck rfl hbm _ _ HRB1.out).mono ?_
               rintro e w' ⟨rfl, rfl⟩
               rw [HG.out]
               go_wp2_with fail
               refine (rd_all HF.out.d).mono ?_
               rintro e w2 ⟨B2, d2, rfl, hd2, hr2, hb2⟩
               have HFIN := Lib.hid (HF.out.next hb2).d.bad
               clear hd2 hr2 hb2
               go_wp2
               go_meet
               exact .inl ⟨_, HE.out, rfl, HFB.out, HFIN.out⟩
         · obtain ⟨f, hf⟩ : ∃ f, (tAll yk).getD k ([], []) = f := ⟨_, rfl⟩
           have hfok : fOk f := by rw [← hf]; exact fOk_tAll HF.out.d.ri.facts.1 k
           rw [hf] at hS
           have hu := getV_used (l := bk) (t := 7) (by rw [hg])
           rw [hg] at hu
           simp only at hu
           obtain ⟨hU1, hU2, -⟩ := hu
           obtain ⟨y2, hy2⟩ : ∃ y2, yk = y2 := ⟨_, rfl⟩
           have HPU := Lib.hid (show heardS most yk mk acc bk = pushF y2 mk acc f U by rw [← hy2]; exact hS)
           have HY2 := Lib.hid hy2
           have HTL := Lib.hid (tAll_len yk)
           have HFK := Lib.hid hf
           have HG := Lib.hid hg
           have hkt : k < (tAll yk).length := by have := HTL.out; omega
           have hk128 := HF.out.d.ri.facts.2.2
           have hwk : wrap64 (((k + 1 : Nat) : Int) - 1) = ((k : Nat) : Int) := by
             unfold wrap64
             omega
           have hwk2 : ((k + 1 : Nat) : Int) - 1 = ((k : Nat) : Int) := by omega
           have j1 : ¬ ((k + 1 : Nat) : Int) < 1 := by omega
           have j2 := decide_eq_false j1
           have j3 : decide (k + 1 < 1) = false := by simp
           have j4 : ¬ (((tAll yk).length : Nat) : Int) < ((k + 1 : Nat) : Int) := by omega
           have j5 := decide_eq_false j4
           have j6 := decide_eq_false (show ¬ (tAll yk).length < k + 1 by omega)
           have j7 : (0 : Int) ≤ ((k : Nat) : Int) := by omega
           have j8 : ((k : Nat) : Int) < (((tAll yk).length : Nat) : Int) := by omega
           obtain ⟨n1, hn1⟩ : ∃ n1, k + 1 = n1 := ⟨_, rfl⟩
           have HN1 := Lib.hid hn1
           rw [hn1] at HG hwk hwk2 j1 j2 j3 j4 j5 j6
           clear hg hS hf hn1 hy2
           go_wp2_with fail
           refine (rget_any bk 7 _ _ lck rfl hbm _ _ HRB1.out).mono ?_
           rintro e w' ⟨rfl, rfl⟩
           rw [HG.out]
           go_wp2_with fail
           refine (rd_all HF.out.d).mono ?_
           rintro e w2 ⟨B2, d2, rfl, hd2, hr2, hb2⟩
           obtain ⟨b2, o2, rfl, hb2l, hcl2⟩ := reads_fld hr2 (by omega)
           obtain ⟨n0, n1'⟩ := hcl2 k hkt
           have hnm : (tAll yk)[k] = f := by rw [← HFK.out, List.getD_eq_getElem?_getD, List.getElem?_eq_getElem hkt]; rfl
           rw [hnm] at n0 n1'
           have hF2 := HF.out.next hb2
           obtain ⟨c0, c1, g0, g1, cF⟩ := hF2.cells
           have HT := Lib.hid (hF2.put (.string ⟨f.1.toArray⟩) (.string ⟨f.2.toArray⟩))
           clear hcl2 hr2 hb2 hF2 hnm
           go_wp2
           go_meet
           exact .inr ⟨U, f, y2, A', c', rfl, rfl, rfl, hfok, hU1, hU2, HPU.out, by rw [← HY2.out]; exact HT.out⟩
       · have i1 : ¬ (127 : Int) < ((y0 : Nat) : Int) := by omega
         have i2 := decide_eq_false i1
         by_cases h64 : 64 ≤ y0
         · have i4 : (63 : Int) < ((y0 : Nat) : Int) := by omega
           have i5 := decide_eq_true i4
           rcases heardS_mid_all (most := most) (xs := yk) (mx := mk) (l := acc) (b := bk) (by rw [HY0.out]; exact h128) (by rw [HY0.out]; exact h64) with ⟨f, U, E, hE, hS, hV⟩ | ⟨f, U, hV, hS⟩
           · have HFB := Lib.hid (heard_bad HNE.out HHk.out hS hE)
             have HE := Lib.hid hE
             have HV := Lib.hid hV
             have hE' : ¬ ((E : Nat) : Int) = 0 := by omega
             have hE2 : (((E : Nat) : Int) == 0) = false := by simpa using hE
             have hE3 : (((E : Nat) : Int) != 0) = true := by simpa using hE
             obtain ⟨o0, o1, Sv, hct⟩ := HF.out.d.ri
             have HCT := Lib.hid hct
             clear hV hS hE hct
             go_wp2_with fail
             refine (rlit_fault HCT.out bk _ _ lck rfl hbc hbm HRB1.out 6 f U E HV.out HE.out).mono ?_
             rintro e w2 ⟨rfl, hb2⟩
             have hF2 := HF.out.next hb2
             obtain ⟨c0, c1, g0, g1, cF⟩ := hF2.cells
             have HFIN := Lib.hid (hF2.put (.string ⟨#[]⟩) (.string ⟨#[]⟩)).d.bad
             clear hb2 hF2
             go_wp2
             go_meet
             exact .inl ⟨_, HE.out, rfl, HFB.out, HFIN.out⟩
           · have hfok : fOk f := fOk_lit HF.out.d.ri.facts.1 hV
             have hu := litV_used (xs := yk) (b := bk) (t := 6) (by rw [hV])
             rw [hV] at hu
             simp only at hu
             obtain ⟨hU1, hU2⟩ := hu
             obtain ⟨y2, hy2⟩ : ∃ y2, tAdd mk yk f = y2 := ⟨_, rfl⟩
             have HPU := Lib.hid (show heardS most yk mk acc bk = pushF y2 mk acc f U by rw [← hy2]; exact hS)
             have HY2 := Lib.hid hy2
             have HV := Lib.hid hV
             obtain ⟨o0, o1, Sv, hct⟩ := HF.out.d.ri
             have HCT := Lib.hid hct
             clear hV hS hct hy2
             go_wp2_with fail
             refine (rlit_ok HCT.out bk _ _ lck rfl hbc hbm HRB1.out 6 f U HV.out).mono ?_
             rintro e w2 ⟨rfl, hb2⟩
             have hF2 := HF.out.next hb2
             obtain ⟨c0, c1, g0, g1, cF⟩ := hF2.cells
             have HT := Lib.hid (hF2.put (.string ⟨f.1.toArray⟩) (.string ⟨f.2.toArray⟩))
             clear hb2 hF2
             go_upto_region 18 with fail
             obtain ⟨W3, hW3⟩ : ∃ W3, (w2.setCell ⟨F, 0, none⟩ (.string ⟨f.1.toArray⟩)).setCell ⟨F, 1, none⟩ (.string ⟨f.2.toArray⟩) = W3 := ⟨_, rfl⟩
             rw [hW3]
             have H3 := Lib.hid (show RDF O w W3 M A' c' yk mk most u6 acc F (.string ⟨f.1.toArray⟩) (.string ⟨f.2.toArray⟩) by rw [← hW3]; exact HT.out)
             clear hW3 c0 c1 g0 g1 cF HT i1 i2 i4 i5
             obtain ⟨c0, c1, g0, g1, cF⟩ := H3.out.cells
             have hMl := H3.out.d.ri.cells.2.2.2.2.2
             go_upto_region 19 with fail
             go_still_tail 4, (by kernel_rfl)
             have H3D := Lib.hid (H3.out.next ((Below.refl _ W3).drew))
             change wpList _ _ _ _ _ W3.drew
             generalize W3.drew = w3 at *
             clear c0 c1 g0 g1 cF hMl
             go_wp2_with fail
             refine (rdf_add H3D.out f hfok).mono ?_
             rintro e W4 ⟨⟨u, rfl⟩, A2, c2, h4⟩
             have HT := Lib.hid (show RDF O w W4 M A2 c2 y2 mk most u6 acc F (.string ⟨f.1.toArray⟩) (.string ⟨f.2.toArray⟩) by rw [← HY2.out]; exact h4)
             clear h4
             go_wp2
             go_meet
             exact .inr ⟨U, f, y2, A2, c2, rfl, rfl, rfl, hfok, hU1, hU2, HPU.out, HT.out⟩
         · have i4 : ¬ (63 : Int) < ((y0 : Nat) : Int) := by omega
           have i5 := decide_eq_false i4
           by_cases h32 : 32 ≤ y0
           · have i7 : (31 : Int) < ((y0 : Nat) : Int) := by omega
             have i8 := decide_eq_true i7
             obtain ⟨-, m3, m4, -, mf', ml⟩ := HF.out.d.ri.cells
             have mf := mf' 3
             clear mf'
             rcases heardS_size_all (most := most) (xs := yk) (mx := mk) (l := acc) (b := bk) (by rw [HY0.out]; exact h128) (by rw [HY0.out]; exact h64) (by rw [HY0.out]; exact h32) with ⟨E, hE, hS, hg⟩ | ⟨N, U, hg, ⟨hNm, hS⟩ | ⟨hNm, hl0, hS⟩ | ⟨hNm, hl0, hS⟩⟩
             · have HFIN := Lib.hid (rdecd_bad (O := O) (most := most) (heard_bad HNE.out HHk.out hS hE) hE HF.out.d.bad)
               have HG := Lib.hid hg
               have hE' : ¬ ((E : Nat) : Int) = 0 := by omega
               have hE2 : (((E : Nat) : Int) == 0) = false := by simpa using hE
               have hE3 : (((E : Nat) : Int) != 0) = true := by simpa using hE
               clear hg hS hE
               go_wp2_with fail
               refine (rget_any bk 5 _ _ lck rfl hbm _ _ HRB1.out).mono ?_
               rintro e w' ⟨rfl, rfl⟩
               rw [HG.out]
               go_wp2
               go_ret2
               exact HFIN.out
             · have HFIN := Lib.hid (rdecd_bad (O := O) (most := most) (heard_bad HNE.out HHk.out hS (by decide)) (by decide) HF.out.d.bad)
               have HG := Lib.hid hg
               have j1 : ((most : Nat) : Int) < ((N : Nat) : Int) := by omega
               have j2 := decide_eq_true j1
               have j3 := decide_eq_true hNm
               clear hg hS
               go_wp2_with fail
               refine (rget_any bk 5 _ _ lck rfl hbm _ _ HRB1.out).mono ?_
               rintro e w' ⟨rfl, rfl⟩
               rw [HG.out]
               go_wp2
               go_ret2
               exact HFIN.out
             · have HFIN := Lib.hid (rdecd_bad (O := O) (most := most) (heard_bad HNE.out HHk.out hS (by decide)) (by decide) HF.out.d.bad)
               have HG := Lib.hid hg
               have j1 : ¬ ((most : Nat) : Int) < ((N : Nat) : Int) := by omega
               have j2 := decide_eq_false j1
               have j3 := decide_eq_false (show ¬ most < N by omega)
               have j4 : (0 : Int) < ((acc.length : Nat) : Int) := by omega
               have j5 := decide_eq_true j4
               have j6 := decide_eq_true hl0
               obtain ⟨VA, vc, hv⟩ := own_slice HF.out.d.row
               clear hg hS
               subst hv
               go_wp2_with fail
               refine (rget_any bk 5 _ _ lck rfl hbm _ _ HRB1.out).mono ?_
               rintro e w' ⟨rfl, rfl⟩
               rw [HG.out]
               go_wp2
               go_ret2
               exact HFIN.out
             · subst hl0
               have hu := getV_used (l := bk) (t := 5) (by rw [hg])
               rw [hg] at hu
               simp only at hu
               obtain ⟨hU1, hU2, -⟩ := hu
               have HNX2 := Lib.hid (heard_on HNE.out HHk.out hS)
               have HG := Lib.hid hg
               have j1 : ¬ ((most : Nat) : Int) < ((N : Nat) : Int) := by omega
               have j2 := decide_eq_false j1
               have j3 := decide_eq_false (show ¬ most < N by omega)
               obtain ⟨VA, vc, hv⟩ := own_slice HF.out.d.row
               clear hg hS
               subst hv
               have HMX := Lib.hid (HF.out.d.max N (by omega))
               go_wp2_with fail
               refine (rget_any bk 5 _ _ lck rfl hbm _ _ HRB1.out).mono ?_
               rintro e w' ⟨rfl, rfl⟩
               rw [HG.out]
               go_upto_region 29 with fail
               obtain ⟨W3, hW3⟩ : ∃ W3, W1.setCell ⟨M, 3, none⟩ (.int .i64 ((N : Nat) : Int)) = W3 := ⟨_, rfl⟩
               rw [hW3]
               have HMX := Lib.hid (show RD O w W3 M A' c' yk N most (.slice VA 0 vc) [] by rw [← hW3]; exact HMX.out)
               have hMl := HMX.out.ri.cells.2.2.2.2.2
               clear hW3 m3 m4 mf ml
               go_wp2_with fail
               refine (rd_shrink HMX.out N (by omega)).mono ?_
               rintro e w4 ⟨rfl, h4⟩
               have HD7 := Lib.hid h4
               clear h4
               by_cases hcU : lck = U
               · have hbl : bk.length = U := by omega
                 have HNX := Lib.hid (show bk.drop U = [] from List.drop_eq_nil_of_le (by omega))
                 rw [hcU, ← hbl]
                 go_wp2_with fail
                 go_roundg (bk.drop U).length
                 case measure => rw [List.length_drop]; have := HLEN.out; omega
                 case rel => exact ⟨[], shr N yk, N, [], _, _, some ⟨bb, off, none⟩, 0, by rw [HNX.out]; rfl, by simp, by simp, rfl, reads_zero, HBk.out, HD7.out, by have h := HNX2.out; rw [HNX.out] at h; exact h, rfl⟩
               · go_wp2_with fail
                 go_roundg (bk.drop U).length
                 case measure => rw [List.length_drop]; have := HLEN.out; omega
                 case rel => exact ⟨bk.drop U, shr N yk, N, [], _, _, some ⟨bb, off + U, none⟩, lck - U, rfl, by rw [List.length_drop]; omega, by rw [List.length_drop]; omega, by rw [List.length_drop], cut_drop HRk.out hbc hU2 hcU, fun ad e => by cases e; exact HBk.out ⟨bb, off, none⟩ rfl, HD7.out, HNX2.out, rfl⟩
           · have i7 : ¬ (31 : Int) < ((y0 : Nat) : Int) := by omega
             have i8 := decide_eq_false i7
             rcases heardS_low_all (most := most) (xs := yk) (mx := mk) (l := acc) (b := bk) (by rw [HY0.out]; exact h128) (by rw [HY0.out]; exact h64) (by rw [HY0.out]; exact h32) with ⟨f, U, E, hE, hS, hV⟩ | ⟨f, U, hV, hS⟩
             · have HFB := Lib.hid (heard_bad HNE.out HHk.out hS hE)
               have HE := Lib.hid hE
               have HV := Lib.hid hV
               have hE' : ¬ ((E : Nat) : Int) = 0 := by omega
               have hE2 : (((E : Nat) : Int) == 0) = false := by simpa using hE
               have hE3 : (((E : Nat) : Int) != 0) = true := by simpa using hE
               obtain ⟨o0, o1, Sv, hct⟩ := HF.out.d.ri
               have HCT := Lib.hid hct
               clear hV hS hE hct
               go_wp2_with fail
               refine (rlit_fault HCT.out bk _ _ lck rfl hbc hbm HRB1.out 4 f U E HV.out HE.out).mono ?_
               rintro e w2 ⟨rfl, hb2⟩
               have hF2 := HF.out.next hb2
               obtain ⟨c0, c1, g0, g1, cF⟩ := hF2.cells
               have HFIN := Lib.hid (hF2.put (.string ⟨#[]⟩) (.string ⟨#[]⟩)).d.bad
               clear hb2 hF2
               go_wp2
               go_meet
               exact .inl ⟨_, HE.out, rfl, HFB.out, HFIN.out⟩
             · have hfok : fOk f := fOk_lit HF.out.d.ri.facts.1 hV
               have hu := litV_used (xs := yk) (b := bk) (t := 4) (by rw [hV])
               rw [hV] at hu
               simp only at hu
               obtain ⟨hU1, hU2⟩ := hu
               obtain ⟨y2, hy2⟩ : ∃ y2, yk = y2 := ⟨_, rfl⟩
               have HPU := Lib.hid (show heardS most yk mk acc bk = pushF y2 mk acc f U by rw [← hy2]; exact hS)
               have HY2 := Lib.hid hy2
               have HV := Lib.hid hV
               obtain ⟨o0, o1, Sv, hct⟩ := HF.out.d.ri
               have HCT := Lib.hid hct
               clear hV hS hct hy2
               go_wp2_with fail
               refine (rlit_ok HCT.out bk _ _ lck rfl hbc hbm HRB1.out 4 f U HV.out).mono ?_
               rintro e w2 ⟨rfl, hb2⟩
               have hF2 := HF.out.next hb2
               obtain ⟨c0, c1, g0, g1, cF⟩ := hF2.cells
               have HT := Lib.hid (hF2.put (.string ⟨f.1.toArray⟩) (.string ⟨f.2.toArray⟩))
               clear hb2 hF2
               go_wp2
               go_meet
               exact .inr ⟨U, f, y2, A', c', rfl, rfl, rfl, hfok, hU1, hU2, HPU.out, by rw [← HY2.out]; exact HT.out⟩
      case rest =>
        rcases hcut with ⟨E, hE, rfl, hre, hbad⟩ | ⟨U, f, y2, A2, c2, rfl, rfl, rfl, hfok, hU1, hU2, hpu, hd⟩
        · have HFIN := Lib.hid (rdecd_bad (O := O) (most := most) hre hE hbad)
          have hE' : ¬ ((E : Nat) : Int) = 0 := by omega
          have hE2 : (((E : Nat) : Int) == 0) = false := by simpa using hE
          have hE3 : (((E : Nat) : Int) != 0) = true := by simpa using hE
          clear hre hbad hE
          go_wp2
          go_ret2
          exact HFIN.out
        · have HT := Lib.hid hd
          have HPU := Lib.hid hpu
          clear hd hpu HF HRB1 HRB
          generalize wc = W4 at *
          obtain ⟨c0, c1, -, -, cF⟩ := HT.out.cells
          have HT0 := Lib.hid HT.out.d
          have hTA : Reads (W4.alloc (.cells #[.string ⟨f.1.toArray⟩, .string ⟨f.2.toArray⟩] 86)) (W4.heap.size + 1) 2 (some ⟨W4.heap.size, 0, none⟩) 1 [.string ⟨f.1.toArray⟩, .string ⟨f.2.toArray⟩] := fld_tmp W4 f
          have hD5 := HT.out.d.next ((Below.refl W4.heap.size W4).alloc (Nat.le_refl _) (.cells #[.string ⟨f.1.toArray⟩, .string ⟨f.2.toArray⟩] 86))
          have HTAB := Lib.hid hTA
          have HD5 := Lib.hid hD5
          have HBA := Lib.hid (show w.heap.size ≤ (W4.alloc (.cells #[.string ⟨f.1.toArray⟩, .string ⟨f.2.toArray⟩] 86)).heap.size from hD5.kp.size)
          obtain ⟨hfo, hl41⟩ := fOk_more HTA.out hfok
          have hla : acc.length + 1 ≤ 41 := by rw [List.length_append] at hl41; exact hl41
          have HFO := Lib.hid hfo
          clear hTA hD5 hfo hl41
          by_cases hcU : lck = U
          · have hbl : bk.length = U := by omega
            have HNX := Lib.hid (show bk.drop U = [] from List.drop_eq_nil_of_le (by omega))
            rw [hcU, ← hbl]
            go_upto_region 36 with (at_builtin; refine wpList_append_any _ rfl _ _ 76 rfl w.heap.size 86 i0 (.agg #[.string ⟨#[]⟩, .string ⟨#[]⟩]) 2 32 Tryd.underlying76 HI.out HZ0.out HZ1.out HZ2.out rfl (by decide) _ _ _ rfl HD5.out.row (W4.heap.size + 1) (some ⟨W4.heap.size, 0, none⟩) 1 1 [.string ⟨f.1.toArray⟩, .string ⟨f.2.toArray⟩] rfl HTAB.out (fld_one f) (by unfold maxLen; omega) (by omega) HBA.out ?_; intro v2 w5 hown2 hg2 hv2; have HD6 := Lib.hid (HD5.out.push f hown2 hg2 hv2); obtain ⟨A2', c2', rfl⟩ := own_slice hown2; clear hown2 hg2 hv2)
            by_cases h40 : 40 < acc.length + 1
            · have HTM := Lib.hid (pushF_much (xs := y2) (mx := mk) (n := U) (show tooMuch (acc ++ [f]) = true by unfold tooMuch; rw [List.length_append]; simp; left; omega))
              have HFIN := Lib.hid (rdecd_bad (O := O) (most := most) (E := 4) (heard_bad (E := 4) HNE.out HHk.out (by rw [HPU.out, HTM.out]) (by decide)) (by decide) HD6.out.bad)
              have j1 : (40 : Int) < ((acc.length + 1 : Nat) : Int) := by omega
              have j2 := decide_eq_true j1
              have j3 : (40 : Int) < ((acc.length : Nat) : Int) + 1 := by omega
              have j4 := decide_eq_true j3
              clear h40
              go_wp2
              go_ret2
              exact HFIN.out
            · obtain ⟨W, hW⟩ : ∃ W, wt (acc ++ [f]) = W := ⟨_, rfl⟩
              have hrw := HD6.out.row
              have HWG := Lib.hid (rweightW_any (acc ++ [f]) HFO.out (by rw [List.length_append]; simp; omega) A2' (acc.length + 1) c2' (by simp) w5 (reads_own (by have h := hrw; rw [show acc.length + 1 = (acc ++ [f]).length by simp] at h; exact h)))
              rw [hW, wrap_smallN (by rw [← hW]; exact wt_small HFO.out (by rw [List.length_append]; simp; omega))] at HWG
              have HWE := Lib.hid hW
              have j1 : ¬ (40 : Int) < ((acc.length + 1 : Nat) : Int) := by omega
              have j2 := decide_eq_false j1
              have j3 : ¬ (40 : Int) < ((acc.length : Nat) : Int) + 1 := by omega
              have j4 := decide_eq_false j3
              clear hrw hW
              by_cases h2000 : 2000 < W
              · have HTM := Lib.hid (pushF_much (xs := y2) (mx := mk) (n := U) (show tooMuch (acc ++ [f]) = true by unfold tooMuch; rw [HWE.out]; simp [h2000]))
                have k1 : (2000 : Int) < ((W : Nat) : Int) := by omega
                have k2 := decide_eq_true k1
                clear h2000
                go_wp2_with fail
                refine HWG.out.mono ?_
                rintro e w6 ⟨rfl, hb6⟩
                have HFIN := Lib.hid (rdecd_bad (O := O) (most := most) (E := 4) (heard_bad (E := 4) HNE.out HHk.out (by rw [HPU.out, HTM.out]) (by decide)) (by decide) (HD6.out.next hb6).bad)
                clear hb6
                go_wp2
                go_ret2
                exact HFIN.out
              · have HTF := Lib.hid (show tooMuch (acc ++ [f]) = false by unfold tooMuch; rw [HWE.out, List.length_append]; simp; omega)
                have HNX2 := Lib.hid (heard_on HNE.out HHk.out (HPU.out.trans (pushF_fine HTF.out)))
                have k1 : ¬ (2000 : Int) < ((W : Nat) : Int) := by omega
                have k2 := decide_eq_false k1
                clear h2000
                go_wp2_with fail
                refine HWG.out.mono ?_
                rintro e w6 ⟨rfl, hb6⟩
                have HD7 := Lib.hid (HD6.out.next hb6)
                clear hb6
                go_wp2_with fail
                go_roundg (bk.drop U).length
                case measure => rw [List.length_drop]; have := HLEN.out; omega
                case rel => exact ⟨[], y2, mk, acc ++ [f], _, _, some ⟨bb, off, none⟩, 0, by rw [HNX.out]; rfl, by simp, by simp, rfl, reads_zero, HBk.out, HD7.out, by have h := HNX2.out; rw [HNX.out] at h; exact h, HTF.out⟩
          · go_upto_region 36 with (at_builtin; refine wpList_append_any _ rfl _ _ 76 rfl w.heap.size 86 i0 (.agg #[.string ⟨#[]⟩, .string ⟨#[]⟩]) 2 32 Tryd.underlying76 HI.out HZ0.out HZ1.out HZ2.out rfl (by decide) _ _ _ rfl HD5.out.row (W4.heap.size + 1) (some ⟨W4.heap.size, 0, none⟩) 1 1 [.string ⟨f.1.toArray⟩, .string ⟨f.2.toArray⟩] rfl HTAB.out (fld_one f) (by unfold maxLen; omega) (by omega) HBA.out ?_; intro v2 w5 hown2 hg2 hv2; have HD6 := Lib.hid (HD5.out.push f hown2 hg2 hv2); obtain ⟨A2', c2', rfl⟩ := own_slice hown2; clear hown2 hg2 hv2)
            by_cases h40 : 40 < acc.length + 1
            · have HTM := Lib.hid (pushF_much (xs := y2) (mx := mk) (n := U) (show tooMuch (acc ++ [f]) = true by unfold tooMuch; rw [List.length_append]; simp; left; omega))
              have HFIN := Lib.hid (rdecd_bad (O := O) (most := most) (E := 4) (heard_bad (E := 4) HNE.out HHk.out (by rw [HPU.out, HTM.out]) (by decide)) (by decide) HD6.out.bad)
              have j1 : (40 : Int) < ((acc.length + 1 : Nat) : Int) := by omega
              have j2 := decide_eq_true j1
              have j3 : (40 : Int) < ((acc.length : Nat) : Int) + 1 := by omega
              have j4 := decide_eq_true j3
              clear h40
              go_wp2
              go_ret2
              exact HFIN.out
            · obtain ⟨W, hW⟩ : ∃ W, wt (acc ++ [f]) = W := ⟨_, rfl⟩
              have hrw := HD6.out.row
              have HWG := Lib.hid (rweightW_any (acc ++ [f]) HFO.out (by rw [List.length_append]; simp; omega) A2' (acc.length + 1) c2' (by simp) w5 (reads_own (by have h := hrw; rw [show acc.length + 1 = (acc ++ [f]).length by simp] at h; exact h)))
              rw [hW, wrap_smallN (by rw [← hW]; exact wt_small HFO.out (by rw [List.length_append]; simp; omega))] at HWG
              have HWE := Lib.hid hW
              have j1 : ¬ (40 : Int) < ((acc.length + 1 : Nat) : Int) := by omega
              have j2 := decide_eq_false j1
              have j3 : ¬ (40 : Int) < ((acc.length : Nat) : Int) + 1 := by omega
              have j4 := decide_eq_false j3
              clear hrw hW
              by_cases h2000 : 2000 < W
              · have HTM := Lib.hid (pushF_much (xs := y2) (mx := mk) (n := U) (show tooMuch (acc ++ [f]) = true by unfold tooMuch; rw [HWE.out]; simp [h2000]))
                have k1 : (2000 : Int) < ((W : Nat) : Int) := by omega
                have k2 := decide_eq_true k1
                clear h2000
                go_wp2_with fail
                refine HWG.out.mono ?_
                rintro e w6 ⟨rfl, hb6⟩
                have HFIN := Lib.hid (rdecd_bad (O := O) (most := most) (E := 4) (heard_bad (E := 4) HNE.out HHk.out (by rw [HPU.out, HTM.out]) (by decide)) (by decide) (HD6.out.next hb6).bad)
                clear hb6
                go_wp2
                go_ret2
                exact HFIN.out
              · have HTF := Lib.hid (show tooMuch (acc ++ [f]) = false by unfold tooMuch; rw [HWE.out, List.length_append]; simp; omega)
                have HNX2 := Lib.hid (heard_on HNE.out HHk.out (HPU.out.trans (pushF_fine HTF.out)))
                have k1 : ¬ (2000 : Int) < ((W : Nat) : Int) := by omega
                have k2 := decide_eq_false k1
                clear h2000
                go_wp2_with fail
                refine HWG.out.mono ?_
                rintro e w6 ⟨rfl, hb6⟩
                have HD7 := Lib.hid (HD6.out.next hb6)
                clear hb6
                go_wp2_with fail
                go_roundg (bk.drop U).length
                case measure => rw [List.length_drop]; have := HLEN.out; omega
                case rel => exact ⟨bk.drop U, y2, mk, acc ++ [f], _, _, some ⟨bb, off + U, none⟩, lck - U, rfl, by rw [List.length_drop]; omega, by rw [List.length_drop]; omega, by rw [List.length_drop], cut_drop HRk.out hbc hU2 hcU, fun ad e => by cases e; exact HBk.out ⟨bb, off, none⟩ rfl, HD7.out, HNX2.out, HTF.out⟩
end Go.Proofs.YtkbbkamnmdeagaaDoor
