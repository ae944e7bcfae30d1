/-
  TopLines, where the closed fact one() is true: the walk. Condition: one(); texts have lengths that an int holds; the library's tables lie.
-/
import Derived.Test.YtbgnggkgmeagkaaGreatDoorMTopLines24
set_option linter.unusedSimpArgs false
set_option linter.unusedVariables false
namespace Go.Proofs.YtbgnggkgmeagkaaGreatDoor
open Go.RowKit

/-- The closed fact. -/
def OneOk : Prop := ∀ w, Pow w → MaxL w → DeB w → Calls Tryz.prog 5 #[] w fun e w' => e = .returned (.bool true) ∧ Below w.heap.size w w'
theorem cookies_take (fs : List Fld) {k : Nat} (h : k < fs.length) : cookies (fs.take (k + 1)) = cookies (fs.take k) + (if fs[k].1 == cookieL then 1 else 0) := by
  unfold cookies
  rw [List.take_succ_eq_append_getElem h, List.filter_append, List.length_append]
  cases hc : fs[k].1 == cookieL <;> simp [hc]
theorem any_take (fs : List Fld) {k : Nat} (h : k < fs.length) (p : Fld → Bool) : (fs.take (k + 1)).any p = ((fs.take k).any p || p fs[k]) := by
  rw [List.take_succ_eq_append_getElem h, List.any_append]
  simp
theorem own_none {w : World} {B size n c : Nat} {e : TypeId} {A : Option Addr} {xs : List Value} (h : w.ownsRow B e size (.slice A n c) n xs) : A = none → c = 0 := by
  rintro rfl
  rcases h.2 with ⟨hv, _⟩ | ⟨g, cap, cur, hv, _⟩
  · cases hv; rfl
  · cases hv
set_option maxRecDepth 100000 in
set_option maxHeartbeats 4000000 in
theorem top_walk (H1 : OneOk) (m p h : List UInt8) (fs : List Fld) (body : List UInt8) (hm : m.length ≤ 9223372036854775807) (hp : p.length ≤ 9223372036854775807) (hh : h.length ≤ 9223372036854775807) (hf : longOk fs) (hfl : fs.length ≤ 140737488355328) (FA : Option Addr) (fn fc : Nat) (hfn : fn = fs.length) (BA : Option Addr) (bn bc : Nat) (hbn : bn = body.length) (w : World) (hP : Pow w) (hM : MaxL w) (hD : DeB w)
    (hr : Reads w w.heap.size 2 FA fs.length (fvs fs)) (hrb : Reads w w.heap.size 1 BA body.length (bs body)) :
    Calls Tryz.prog 3 #[.agg (reqV m p h FA fn fc BA bn bc)] w fun e w' => e = .returned (.bool true) ∧ Below w.heap.size w w' := by
  subst hfn
  subst hbn
  obtain ⟨W, hW⟩ : ∃ W, w.alloc (.cells (reqV m p h FA fs.length fc BA body.length bc) 25) = W := ⟨_, rfl⟩
  have hba : Below w.heap.size w W := by rw [← hW]; exact (Below.refl _ _).alloc (Nat.le_refl _) _
  have q : ∀ w1, Below W.heap.size W w1 → w1.cell? ⟨w.heap.size, 0, none⟩ = some (.string ⟨m.toArray⟩) ∧ w1.cell? ⟨w.heap.size, 1, none⟩ = some (.string ⟨p.toArray⟩) ∧ w1.cell? ⟨w.heap.size, 2, none⟩ = some (.string ⟨h.toArray⟩) ∧ w1.cell? ⟨w.heap.size, 3, none⟩ = some (.slice FA fs.length fc) ∧ w1.cell? ⟨w.heap.size, 4, none⟩ = some (.slice BA body.length bc) ∧ w.heap.size < w1.heap.size ∧ Below w.heap.size w w1 := by
    intro w1 h1
    have hb := Blk.new w 25 (reqV m p h FA fs.length fc BA body.length bc)
    rw [hW] at hb
    have hb2 := hb.below h1 hb.lt
    exact ⟨hb2.cell 0, hb2.cell 1, hb2.cell 2, hb2.cell 3, hb2.cell 4, hb2.lt, hba.trans (h1.mono hba.size)⟩
  have HQ := Lib.hid q
  have HR := Lib.hid hr
  have HRB := Lib.hid hrb
  have HPW := Lib.hid hP
  have HMX := Lib.hid hM
  have HLO := Lib.hid (And.intro hm (And.intro hp (And.intro hh (And.intro hf hfl))))
  have HONE := Lib.hid (H1 W (hP.next hba) (hM.next hba) (hD.next hba))
  have HW := Lib.hid hW
  clear H1 hm hp hh hf hP hM hD hr hrb q hba
  go_enter Tryz.func3, Tryz.ntmps3
  go_wp2_with fail
  refine HONE.out.mono ?_
  rintro e w1 ⟨rfl, hb1⟩
  obtain ⟨d0, d1, d2, d3, d4, dl, hbw1⟩ := HQ.out w1 hb1
  have HB1 := Lib.hid hb1
  have HBW1 := Lib.hid hbw1
  clear hb1 hbw1 hW
  by_cases hE : askE m p h fs body.length = 0
  · obtain ⟨q1, q2, q3, q4, q5, q6, q7⟩ := askE_fine hE
    have HASK := Lib.hid (lask_ok m p h fs body hE FA fs.length fc rfl BA body.length bc rfl w1 (HPW.out.next HBW1.out) ((HR.out.below HBW1.out).more HBW1.out.size) ((HRB.out.below HBW1.out).more HBW1.out.size))
    have HE := Lib.hid hE
    have HGD := Lib.hid (fldE_good fs q7)
    have HML := Lib.hid (And.intro (tok_until q3).2.1 (And.intro (word_until q4).2.1 (plain_len q6)))
    have hfs40 := q1
    have hb8 := q2
    clear hE q1 q2 q3 q4 q5 q6 q7
    go_wp2_with fail
    refine HASK.out.mono ?_
    rintro e w2 ⟨v2, rfl, ad, c2, rfl, hc2, had1, had2, hrd2, hb2⟩
    have hbW2 := HB1.out.trans (hb2.mono HB1.out.size)
    obtain ⟨d0, d1, d2, d3, d4, dl, hbw2⟩ := HQ.out w2 hbW2
    by_cases h20 : 20000 < (askL m p h fs body).length
    · have hi1 : (20000 : Int) < (((askL m p h fs body).length : Nat) : Int) := by omega
      have hi2 := decide_eq_true hi1
      have HBW2 := Lib.hid hbw2
      clear hrd2 hb2 hbW2 hbw2
      go_wp2
      go_ret
      exact ⟨rfl, HBW2.out⟩
    · obtain ⟨L, hL⟩ : ∃ L, (askL m p h fs body).length = L := ⟨_, rfl⟩
      rw [hL] at h20 hc2 ⊢
      have hi1 : ¬ (20000 : Int) < ((L : Nat) : Int) := by omega
      have hi2 := decide_eq_false hi1
      have HRA := Lib.hid (readAsk_ok m p h fs body HE.out (some ad) L c2 hL.symm (by rw [hL]; exact hc2) w2 hrd2)
      have HRD2 := Lib.hid hrd2
      have HB2 := Lib.hid hbW2
      have HBW2 := Lib.hid hbw2
      have HL := Lib.hid hL
      clear hrd2 hb2 hbW2 hbw2 hL
      go_wp2_with fail
      refine HRA.out.mono ?_
      rintro e w3 ⟨v3, rfl, FA3, fc3, BA3, bc3, rfl, ho3, hob3, hb3⟩
      obtain ⟨W4, hW4⟩ : ∃ W4, w3.alloc (.cells (reqV m p h FA3 fs.length fc3 BA3 body.length bc3) 25) = W4 := ⟨_, rfl⟩
      have hb34 : Below w3.heap.size w3 W4 := by rw [← hW4]; exact (Below.refl _ _).alloc (Nat.le_refl _) _
      have hb24 : Below w2.heap.size w2 W4 := hb3.trans (hb34.mono hb3.size)
      have hg4 : Blk W4 w3.heap.size 25 (reqV m p h FA3 fs.length fc3 BA3 body.length bc3) := by rw [← hW4]; exact Blk.new w3 _ _
      have hr4 : Reads W4 W4.heap.size 2 FA3 fs.length (fvs fs) := ((Reads.of_own ho3).below hb34).more hb34.size
      have hrb4 : Reads W4 W4.heap.size 1 BA3 body.length (bs body) := ((Reads.of_own hob3).below hb34).more hb34.size
      have hbW4 := HB2.out.trans (hb24.mono HB2.out.size)
      have HLI := Lib.hid (flist_ok m p h fs body.length HE.out FA3 fs.length fc3 rfl BA3 bc3 W4 (HMX.out.next (HQ.out W4 hbW4).2.2.2.2.2.2) hr4)
      have g0 := hg4.cell 0
      have g1 := hg4.cell 1
      have g2 := hg4.cell 2
      have g3 := hg4.cell 3
      have g4 := hg4.cell 4
      have gl := hg4.lt
      have HG4 := Lib.hid hg4
      have HRB4 := Lib.hid hrb4
      have HBN := Lib.hid (own_none hob3)
      have HB4 := Lib.hid hbW4
      have HB24 := Lib.hid hb24
      clear ho3 hob3 hb3 hb34 hb24 hg4 hr4 hrb4 hbW4
      go_wp2_with fail
      refine HLI.out.mono ?_
      rintro e w5 ⟨LA, lc, rfl, ho5, hb5⟩
      have HO5 := Lib.hid ho5
      have HB45 := Lib.hid hb5
      have hbW5 := HB4.out.trans (hb5.mono HB4.out.size)
      have HB5 := Lib.hid hbW5
      obtain ⟨l, hl⟩ : ∃ l, listL m p h fs = l := ⟨_, rfl⟩
      rw [hl] at HO5
      have HLL := Lib.hid hl
      have hfok := list_fok HML.out.1 HML.out.2.1 HML.out.2.2 HGD.out
      rw [hl] at hfok ⊢
      have HFOK := Lib.hid hfok
      have hllen : l.length ≤ 20000 := by
        rw [← hl]
        have h9 := expL_len fs (fun f hf => plain_len (HGD.out f hf).2.1)
        simp only [listL, List.length_cons]
        omega
      have HN1 := Lib.hid (cnew_yes 4096 (Nat.le_refl _) w5)
      clear ho5 hb5 hbW5 hl hfok
      go_wp2_with fail
      refine HN1.out.mono ?_
      rintro e w6 ⟨C, cg, ch, rfl, hco, hci, hb6, hC, hcg, hch, -, -⟩
      have HCO := Lib.hid hco
      have HB6 := Lib.hid hb6
      have HCG := Lib.hid (And.intro hC hcg)
      have HN2 := Lib.hid (cnew_yes 4096 (Nat.le_refl _) w6)
      clear hco hci hb6 hC hcg hch
      go_wp2_with fail
      refine HN2.out.mono ?_
      rintro e w7 ⟨D, dg, dh, rfl, hdo, hdi, hb7, hD, hdg, hdh, -, -⟩
      have hHB := hb_new (Nat.le_refl _) HCO.out HB6.out HCG.out.1 HCG.out.2 hdi hb7 hD hdh
      have HHB := Lib.hid hHB
      have hsz5 := HHB.out.bw.size
      have hrd7 : Reads w7 w7.heap.size 2 LA l.length (fvs l) := ((Reads.of_own HO5.out).below HHB.out.bw).more hsz5
      have HLA : Hid (∀ ad, LA = some ad → 0 < l.length → ¬ oOwn C cg none (.slice none 0 0) ad.block) := by
        intro ad e h0 ho
        obtain ⟨ad', e', hB, _⟩ := (Reads.of_own HO5.out).2 h0
        rw [e] at e'
        cases e'
        have := HHB.out.ob _ ho
        omega
      have HRD7 := Lib.hid hrd7
      have HB7 := Lib.hid (HB5.out.trans (HHB.out.bw.mono HB5.out.size))
      clear hdo hdi hb7 hD hdg hdh hHB hrd7
      by_cases hS : saidE l = 0
      · have HEN := Lib.hid (hb_said HHB.out l HFOK.out (by omega) (by simp) hS LA l.length lc rfl HRD7.out HLA.out)
        have hl40 : l.length ≤ 40 := by
          unfold saidE at hS
          split at hS
          · cases hS
          · rename_i h9
            simp only [Bool.or_eq_true, not_or, Bool.not_eq_true] at h9
            exact (fOk_little h9.1).2
        clear hS
        go_wp2_with fail
        refine HEN.out.mono ?_
        rintro e w8 ⟨bb, A2, cc2, A3, cc3, BB, rfl, hHM⟩
        have HDE := Lib.hid (hb_heard hHM)
        clear hHM
        go_wp2_with fail
        refine HDE.out.mono ?_
        rintro e w9 ⟨MA, mc, A4, cc4, rfl, ho9, hHB9⟩
        have hb59 := hHB9.bw
        have HB59 := Lib.hid hb59
        have hbW9 := HB5.out.trans (hb59.mono HB5.out.size)
        obtain ⟨d0, d1, d2, d3, d4, dl, hbw9⟩ := HQ.out w9 hbW9
        have HB9 := Lib.hid hbW9
        have HBW9 := Lib.hid hbw9
        have HO9 := Lib.hid (Reads.of_own ho9)
        have hr9 := (HR.out.below hbw9)
        have HR9 := Lib.hid hr9
        have hsz9 := hbw9.size
        clear ho9 hHB9 hb59 hbW9 hbw9 hr9
        go_wp2_with fail
        go_loopg [16, 17, 18] fs.length (fun mm v16 v17 v18 wr => ∃ k : Nat, mm + k = fs.length ∧ v16 = .int .i64 ((cookies (fs.take k) : Nat) : Int) ∧ v17 = .bool ((fs.take k).any fun f => isBetween f.1) ∧ v18 = .int .i64 ((k : Nat) : Int) ∧ wr = w9)
        case atStart => exact ⟨0, rfl, rfl, rfl, rfl, rfl⟩
        case round =>
          obtain ⟨k, hk, rfl, rfl, rfl, rfl⟩ := hrel
          have HK := Lib.hid hk
          have hkl : k ≤ fs.length := by omega
          have hck : cookies (fs.take k) ≤ fs.length := Nat.le_trans (List.length_filter_le _ _) (by rw [List.length_take]; omega)
          obtain ⟨N, hN⟩ : ∃ N, cookies (fs.take k) = N := ⟨_, rfl⟩
          obtain ⟨Bt, hBt⟩ : ∃ Bt, ((fs.take k).any fun f => isBetween f.1) = Bt := ⟨_, rfl⟩
          rw [hN] at hck
          rw [hN, hBt]
          have HN := Lib.hid hN
          have HBt := Lib.hid hBt
          clear hk hN hBt
          by_cases hlt : k < fs.length
          · obtain ⟨b0, off, hA, hbB, hcl⟩ := reads_fld HR9.out (by omega)
            subst hA
            obtain ⟨c0, -⟩ := hcl k hlt
            have hct := cookies_take fs hlt
            have hat := any_take fs hlt (fun f => isBetween f.1)
            obtain ⟨f, hfk⟩ : ∃ f, fs[k] = f := ⟨_, rfl⟩
            rw [hfk] at c0 hct hat
            rw [HN.out] at hct
            rw [HBt.out] at hat
            obtain ⟨f1, f2⟩ := f
            simp only at c0 hct hat
            have hki : ((k : Nat) : Int) < ((fs.length : Nat) : Int) := by omega
            have hbw := Nat.lt_of_lt_of_le hbB hsz9
            obtain ⟨a, ha⟩ : ∃ a, (f1 == [99, 111, 110, 110, 101, 99, 116, 105, 111, 110]) = a := ⟨_, rfl⟩
            obtain ⟨b, hb⟩ : ∃ b, (f1 == [99, 111, 100, 105, 110, 103]) = b := ⟨_, rfl⟩
            obtain ⟨c, hc⟩ : ∃ c, (f1 == [107, 101, 101, 112]) = c := ⟨_, rfl⟩
            obtain ⟨d, hd⟩ : ∃ d, (f1 == [117, 112, 103, 114, 97, 100, 101]) = d := ⟨_, rfl⟩
            obtain ⟨ck, hck2⟩ : ∃ ck, (f1 == [99, 111, 111, 107, 105, 101]) = ck := ⟨_, rfl⟩
            have hck3 : (f1 == cookieL) = ck := hck2
            have HAT := Lib.hid (show (fs.take (k + 1)).any (fun f => isBetween f.1) = (Bt || (a || (b || (c || d)))) by rw [hat, ← ha, ← hb, ← hc, ← hd]; rfl)
            rw [hck3] at hct
            have HCT := Lib.hid hct
            have hNb : ((N : Nat) : Int) ≤ 140737488355328 := by omega
            clear hcl hbB hfk hct hat hck3
            cases ck <;> cases Bt <;> cases a <;> cases b <;> cases c <;> cases d <;>
              (go_wp2_with fail
               go_roundg (gk - 1)
               case measure => have := HK.out; omega
               case rel => exact ⟨k + 1, by have := HK.out; omega, by rw [HCT.out]; first | rfl | go_num, by rw [HAT.out]; rfl, by go_num, rfl⟩)
          · have hk2 : k = fs.length := by omega
            subst hk2
            have hki : ¬ ((fs.length : Nat) : Int) < ((fs.length : Nat) : Int) := by omega
            have hNf := HN.out
            have hBf := HBt.out
            rw [List.take_length] at hNf hBf
            have HNF := Lib.hid hNf
            have HBF := Lib.hid hBf
            have hg9 : Blk wr w3.heap.size 25 (reqV m p h FA3 fs.length fc3 BA3 body.length bc3) := (HG4.out.below HB45.out HG4.out.lt).below HB59.out (Nat.lt_of_lt_of_le HG4.out.lt HB45.out.size)
            have g4 := hg9.cell 4
            have gl := hg9.lt
            have hb49 : Below W4.heap.size W4 wr := HB45.out.trans (HB59.out.mono HB45.out.size)
            have hrb9 : Reads wr wr.heap.size 1 BA3 body.length (bs body) := (HRB4.out.below hb49).more hb49.size
            have hrl : (expL fs).length + 3 = l.length := by rw [← HLL.out]; simp [listL]
            have htot : tot (expL fs) ≤ 1000000 := by
              have h9 := tot_small (expL fs) 400 (fun g hg => by
                obtain ⟨f, hf, _, e2⟩ := expL_mem hg
                have := plain_len (HGD.out f hf).2.1
                omega)
              omega
            have HFA := Lib.hid (fask_any m p h (expL fs) body (by have := HML.out.1; omega) (by have := HML.out.2.1; omega) (by have := HML.out.2.2; omega) (rest_ok HGD.out) (by omega) htot (by omega) MA l.length mc (by rw [← HLL.out]; simp [listL, expL]; omega) BA3 body.length bc3 rfl HBN.out wr (by
              have h9 := HO9.out
              rw [← hrl] at h9
              have e9 := HLL.out
              rw [← e9] at h9
              exact h9) hrb9)
            clear hNf hBf hg9 hb49 hrb9 htot
            go_wp2_with fail
            refine HFA.out.mono ?_
            rintro e w10 ⟨hb10, hres⟩
            have hbW10 := HB9.out.trans (hb10.mono HB9.out.size)
            obtain ⟨d0, d1, d2, d3, d4, dl, hbw10⟩ := HQ.out w10 hbW10
            by_cases hout : Bt = true ∨ 1 < N
            · have hbwA : ∀ cs, Below w.heap.size w (w10.alloc (.cells cs 25)) := fun cs => hbw10.alloc hbw10.size _
              have HBA := Lib.hid hbwA
              have hN1 : Bt = true ∨ (Bt = false ∧ (1 : Int) < ((N : Nat) : Int)) := by
                rcases hout with h9 | h9
                · exact .inl h9
                · cases Bt with
                  | true => exact .inl rfl
                  | false => exact .inr ⟨rfl, by omega⟩
              clear hb10 hbW10 hbw10 hbwA hout
              by_cases hcond : (expL fs).any (fun f => isBetween f.1) = true ∨ askE m p h (accL ⟨[], none⟩ (expL fs)).l body.length ≠ 0
              · rw [if_pos hcond] at hres
                obtain ⟨ty, u, rfl⟩ := hres
                clear hcond
                rcases hN1 with rfl | ⟨rfl, hN2⟩ <;>
                  (go_wp2
                   go_ret
                   exact ⟨rfl, HBA.out _⟩)
              · rw [if_neg hcond] at hres
                obtain ⟨FA9, fc9, BA9, bc9, rfl, -, -⟩ := hres
                clear hcond
                rcases hN1 with rfl | ⟨rfl, hN2⟩ <;>
                  (go_wp2
                   go_ret
                   exact ⟨rfl, HBA.out _⟩)
            · have hBt0 : Bt = false := by cases Bt with
                | true => exact absurd (.inl rfl) hout
                | false => rfl
              subst hBt0
              have hN1 : N ≤ 1 := by omega
              obtain ⟨ck, hacc⟩ := accL_one fs [] (by rw [HNF.out]; exact hN1)
              rw [List.nil_append] at hacc
              have hal : (accL ⟨[], none⟩ (expL fs)).l = fs := by rw [hacc]
              rw [hal, expL_any, HBF.out, HE.out, if_neg (by simp)] at hres
              obtain ⟨FA9, fc9, BA9, bc9, rfl, ho10, hob10⟩ := hres
              have hN2 : ¬ (1 : Int) < ((N : Nat) : Int) := by omega
              have hN3 := decide_eq_false hN2
              obtain ⟨W11, hW11⟩ : ∃ W11, w10.alloc (.cells (reqV m p h FA9 fs.length fc9 BA9 body.length bc9) 25) = W11 := ⟨_, rfl⟩
              have hb11 : Below w10.heap.size w10 W11 := by rw [← hW11]; exact (Below.refl _ _).alloc (Nat.le_refl _) _
              have hg11 : Blk W11 w10.heap.size 25 (reqV m p h FA9 fs.length fc9 BA9 body.length bc9) := by rw [← hW11]; exact Blk.new w10 _ _
              have n0 := hg11.cell 0
              have n1 := hg11.cell 1
              have n2 := hg11.cell 2
              have n3 := hg11.cell 3
              have n4 := hg11.cell 4
              have nl := hg11.lt
              have hbw11 := hbw10.trans (hb11.mono hbw10.size)
              have HASK2 := Lib.hid (lask_ok m p h fs body HE.out FA9 fs.length fc9 rfl BA9 body.length bc9 rfl W11 (HPW.out.next hbw11) (((Reads.of_own ho10).below hb11).more hb11.size) (((Reads.of_own hob10).below hb11).more hb11.size))
              have HBW11 := Lib.hid hbw11
              have HB211 := Lib.hid (show Below w2.heap.size w2 W11 from HB24.out.trans (((HB45.out.trans (HB59.out.mono HB45.out.size)).trans ((hb10.trans (hb11.mono hb10.size)).mono (Nat.le_trans HB45.out.size HB59.out.size))).mono HB24.out.size))
              clear hb10 hbW10 hbw10 hout hacc hal ho10 hob10 hb11 hg11 hbw11
              go_wp2_with fail
              refine HASK2.out.mono ?_
              rintro e w12 ⟨v12, rfl, ad12, c12, rfl, hc12, h12a, h12b, hrd12, hb12⟩
              have hbw12 := HBW11.out.trans (hb12.mono HBW11.out.size)
              have hrd2 := HRD2.out.below (HB211.out.trans (hb12.mono HB211.out.size))
              have k1 := run_str hrd12 c12
              have k2 := run_str hrd2 c2
              rw [HL.out] at k1 k2 ⊢
              have HBW12 := Lib.hid hbw12
              have e5 : ((askL m p h fs body) == (askL m p h fs body)) = true := by simp
              clear hrd12 hrd2 hb12 hbw12
              go_wp2
              go_ret
              exact ⟨by simp, HBW12.out⟩
      · have HEN := Lib.hid (hb_fault HHB.out l HFOK.out (by omega) hS LA l.length lc rfl HRD7.out)
        clear hS
        go_wp2_with fail
        refine HEN.out.mono ?_
        rintro e w8 ⟨rfl, hHB8⟩
        have HB8 := Lib.hid (HQ.out w8 (HB5.out.trans (hHB8.bw.mono HB5.out.size))).2.2.2.2.2.2
        clear hHB8
        go_wp2
        go_ret
        exact ⟨rfl, HB8.out⟩
  · have HNO := Lib.hid (lask_no m p h fs body.length hE HLO.out.1 HLO.out.2.1 HLO.out.2.2.1 HLO.out.2.2.2.1 HLO.out.2.2.2.2 FA fs.length fc rfl BA bc w1 ((HR.out.below HBW1.out).more HBW1.out.size))
    clear hE
    go_wp2_with fail
    refine HNO.out.mono ?_
    rintro e w2 ⟨ty, v, rfl, hb2⟩
    have HBW2 := Lib.hid (HQ.out w2 (HB1.out.trans (hb2.mono HB1.out.size))).2.2.2.2.2.2
    clear hb2
    go_wp2
    go_ret
    exact ⟨rfl, HBW2.out⟩
end Go.Proofs.YtbgnggkgmeagkaaGreatDoor
