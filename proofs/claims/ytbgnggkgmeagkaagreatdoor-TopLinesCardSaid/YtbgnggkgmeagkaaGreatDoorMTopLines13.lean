/-
  A coder that hears: decode, where nothing is wrong. Condition: the bound on the bytes; the bytes lie below the coder's own blocks.
  A coder that hears: Decode, where nothing is wrong. Condition: the bound on the bytes; the bytes lie below the coder's own blocks.
  tollsame.Fields: lists that read alike are the same. Condition: the bound on the length.
  Two coders, one that says, one that hears: the words of the law HeadBack. Condition: the fields' texts' lengths.
-/
import Derived.Test.YtbgnggkgmeagkaaGreatDoorMTopLines11
import Derived.Test.YtbgnggkgmeagkaaGreatDoorMTopLinesHenc2
import Derived.Test.YtbgnggkgmeagkaaGreatDoorMTopLines03
import Derived.Deep.QuietTactic
import Derived.BigQuiet
import Derived.Deep.CutRange
set_option linter.unusedSimpArgs false
set_option linter.unusedVariables false
namespace Go.Proofs.YtbgnggkgmeagkaaGreatDoor
open Go.RowKit
variable {qq : Value × Value}
attribute [local go_sem ↓] Go.wp_at_zero Go.wp_at_succ

theorem pushF_ok {xs : List Fld} {mx : Nat} {l : List Fld} {f : Fld} {n : Nat} (h : (pushF xs mx l f n).e = 0) : tooMuch (l ++ [f]) = false ∧ pushF xs mx l f n = ⟨0, xs, mx, l ++ [f], n⟩ := by
  unfold pushF at h ⊢
  cases hT : tooMuch (l ++ [f]) with
  | true => simp [hT] at h
  | false => simp
theorem heardS_hi {most : Nat} {xs : List Fld} {mx : Nat} {l : List Fld} {b : List UInt8} (h : (heardS most xs mx l b).e = 0) (h1 : 128 ≤ (b.headD 0).toNat) :
    ∃ k U, getV b 7 = (k + 1, U, 0) ∧ k < 12 + xs.length ∧ tooMuch (l ++ [(tAll xs).getD k ([], [])]) = false ∧ heardS most xs mx l b = ⟨0, xs, mx, l ++ [(tAll xs).getD k ([], [])], U⟩ := by
  obtain ⟨N, U, E, hg⟩ : ∃ N U E, getV b 7 = (N, U, E) := ⟨_, _, _, rfl⟩
  unfold heardS at h ⊢
  simp only [if_pos h1, hg] at h ⊢
  by_cases e1 : E ≠ 0
  · rw [if_pos e1] at h
    exact absurd h e1
  rw [if_neg e1] at h ⊢
  by_cases e2 : N < 1 ∨ 12 + xs.length < N
  · rw [if_pos e2] at h
    simp at h
  rw [if_neg e2] at h ⊢
  obtain ⟨k, rfl⟩ : ∃ k, N = k + 1 := ⟨N - 1, by omega⟩
  obtain ⟨p1, p2⟩ := pushF_ok h
  exact ⟨k, U, by rw [Decidable.not_not.1 e1], by omega, p1, p2⟩
theorem heardS_mid {most : Nat} {xs : List Fld} {mx : Nat} {l : List Fld} {b : List UInt8} (h : (heardS most xs mx l b).e = 0) (h1 : ¬ 128 ≤ (b.headD 0).toNat) (h2 : 64 ≤ (b.headD 0).toNat) :
    ∃ f U, litV xs b 6 = (f, U, 0) ∧ tooMuch (l ++ [f]) = false ∧ heardS most xs mx l b = ⟨0, tAdd mx xs f, mx, l ++ [f], U⟩ := by
  obtain ⟨f, U, E, hg⟩ : ∃ f U E, litV xs b 6 = (f, U, E) := ⟨_, _, _, rfl⟩
  unfold heardS at h ⊢
  simp only [if_neg h1, if_pos h2, hg] at h ⊢
  by_cases e1 : E ≠ 0
  · rw [if_pos e1] at h
    exact absurd h e1
  rw [if_neg e1] at h ⊢
  obtain ⟨p1, p2⟩ := pushF_ok h
  exact ⟨f, U, by rw [Decidable.not_not.1 e1], p1, p2⟩
theorem heardS_low {most : Nat} {xs : List Fld} {mx : Nat} {l : List Fld} {b : List UInt8} (h : (heardS most xs mx l b).e = 0) (h1 : ¬ 128 ≤ (b.headD 0).toNat) (h2 : ¬ 64 ≤ (b.headD 0).toNat) (h3 : ¬ 32 ≤ (b.headD 0).toNat) :
    ∃ f U, litV xs b 4 = (f, U, 0) ∧ tooMuch (l ++ [f]) = false ∧ heardS most xs mx l b = ⟨0, xs, mx, l ++ [f], U⟩ := by
  obtain ⟨f, U, E, hg⟩ : ∃ f U E, litV xs b 4 = (f, U, E) := ⟨_, _, _, rfl⟩
  unfold heardS at h ⊢
  simp only [if_neg h1, if_neg h2, if_neg h3, hg] at h ⊢
  by_cases e1 : E ≠ 0
  · rw [if_pos e1] at h
    exact absurd h e1
  rw [if_neg e1] at h ⊢
  obtain ⟨p1, p2⟩ := pushF_ok h
  exact ⟨f, U, by rw [Decidable.not_not.1 e1], p1, p2⟩
theorem heardS_size {most : Nat} {xs : List Fld} {mx : Nat} {l : List Fld} {b : List UInt8} (h : (heardS most xs mx l b).e = 0) (h1 : ¬ 128 ≤ (b.headD 0).toNat) (h2 : ¬ 64 ≤ (b.headD 0).toNat) (h3 : 32 ≤ (b.headD 0).toNat) :
    ∃ N U, getV b 5 = (N, U, 0) ∧ N ≤ most ∧ l = [] ∧ heardS most xs mx l b = ⟨0, shr N xs, N, l, U⟩ := by
  obtain ⟨N, U, E, hg⟩ : ∃ N U E, getV b 5 = (N, U, E) := ⟨_, _, _, rfl⟩
  unfold heardS at h ⊢
  simp only [if_neg h1, if_neg h2, if_pos h3, hg] at h ⊢
  by_cases e1 : E ≠ 0
  · rw [if_pos e1] at h
    exact absurd h e1
  rw [if_neg e1] at h ⊢
  by_cases e2 : most < N
  · rw [if_pos e2] at h
    simp at h
  rw [if_neg e2] at h ⊢
  by_cases e3 : 0 < l.length
  · rw [if_pos e3] at h
    simp at h
  rw [if_neg e3]
  exact ⟨N, U, by rw [Decidable.not_not.1 e1], by omega, List.eq_nil_of_length_eq_zero (by omega), rfl⟩
theorem heard_go {most : Nat} {xs : List Fld} {mx : Nat} {l : List Fld} {b : List UInt8} {r : Step} (hb : b ≠ []) (h : heard most xs mx l b = r) (hr : r.e = 0) : (heardS most xs mx l b).e = 0 ∧ heard most (heardS most xs mx l b).xs (heardS most xs mx l b).mx (heardS most xs mx l b).l (b.drop (heardS most xs mx l b).n) = r ∧ 1 ≤ (heardS most xs mx l b).n ∧ (heardS most xs mx l b).n ≤ b.length := by
  have h0 : (heardS most xs mx l b).e = 0 := by
    rcases Nat.eq_zero_or_pos (heardS most xs mx l b).e with h0 | h0
    · exact h0
    · have h1 := heard_fault (most := most) (xs := xs) (mx := mx) (l := l) hb (by omega)
      rw [h1] at h
      rw [h]
      exact hr
  have hu := heardS_used h0
  rw [heard_next hb h0] at h
  exact ⟨h0, h, hu.1, hu.2⟩
theorem fOk_little {l : List Fld} (h : tooMuch l = false) : (∀ f ∈ l, fOk f) ∧ l.length ≤ 40 := by
  simp only [tooMuch, Bool.or_eq_false_iff, decide_eq_false_iff_not] at h
  refine ⟨fun f hf => ?_, by omega⟩
  have h1 : ∀ (l : List Fld), f ∈ l → fsz f ≤ wt l := by
    intro l
    induction l with
    | nil => intro h; cases h
    | cons x l ih =>
      intro hm
      rw [wt_cons]
      rcases List.mem_cons.1 hm with rfl | hm
      · omega
      · have := ih hm
        omega
  have h2 := h1 l hf
  unfold fsz at h2
  constructor <;> omega
theorem fld_tmp (W : World) (f : Fld) : Reads (W.alloc (.cells #[.string ⟨f.1.toArray⟩, .string ⟨f.2.toArray⟩] 41)) (W.heap.size + 1) 2 (some ⟨W.heap.size, 0, none⟩) 1 [.string ⟨f.1.toArray⟩, .string ⟨f.2.toArray⟩] := by
  refine ⟨rfl, fun _ => ⟨_, rfl, Nat.lt_succ_self _, fun j u hu => ?_⟩⟩
  have h := (Blk.new W 41 #[.string ⟨f.1.toArray⟩, .string ⟨f.2.toArray⟩]).cell j
  rw [Addr.add_lit, Nat.zero_add, h]
  simpa using hu
theorem fld_one (f : Fld) : ∀ u ∈ [Value.string ⟨f.1.toArray⟩, .string ⟨f.2.toArray⟩], u.oneCell' = true := by
  intro u hu
  simp only [List.mem_cons, List.not_mem_nil, or_false] at hu
  rcases hu with rfl | rfl <;> rfl
/-- What decode leaves of the coder. -/
def InDone (w w' : World) (C h : Nat) (A : Option Addr) (ys' : List Fld) (my' most : Nat) (qq : Value × Value) : Prop :=
  ∃ A' c', CIn w' C h A' c' ys' my' most false qq ∧ Keep (iOwn C h A) w w' ∧ ∀ k, iOwn C h A' k → iOwn C h A k ∨ w.heap.size ≤ k

set_option maxRecDepth 100000 in
set_option maxHeartbeats 8000000 in
theorem cdec_ok {w : World} {C h : Nat} {A : Option Addr} {c : Nat} {ys : List Fld} {my most : Nat} (H : CIn w C h A c ys my most false qq) (hmost : most ≤ 4096) (b : List UInt8) (LA : Option Addr) (n lc : Nat) (hn : n = b.length) (hcap : b.length ≤ lc) (hm : b.length ≤ 140737488355328) (B : Nat) (hB : B < w.heap.size) (hBl : ¬ iOwn C h A B) (hr : Reads w w.heap.size 1 LA b.length (bs b)) (hLA : ∀ ad, LA = some ad → ad.block = B)
    (ys' : List Fld) (my' : Nat) (L : List Fld) (hH : heard most ys my [] b = ⟨0, ys', my', L, 0⟩) :
    Calls Tryz.prog 45 #[.pointer (some ⟨C, 0, none⟩), .slice LA n lc] w fun e w' => ∃ A2 n2 c2, e = .returned (.tuple #[.slice A2 n2 c2, .nilIface]) ∧ n2 = L.length ∧ w'.ownsRow w.heap.size 41 2 (.slice A2 n2 c2) n2 (fvs L) ∧ InDone w w' C h A ys' my' most qq := by
  subst hn
  obtain ⟨R, hR⟩ : ∃ R, w.heap.size = R := ⟨_, rfl⟩
  obtain ⟨W0, hW0⟩ : ∃ W0, w.alloc (.cells #[.slice LA b.length lc, .nilIface] 180) = W0 := ⟨_, rfl⟩
  have hD0 : DAt w W0 C h A A c R B b ys my most (.slice none 0 0) [] qq := by
    have hb0 : Below w.heap.size w W0 := by rw [← hW0]; exact (Below.refl _ _).alloc (Nat.le_refl _) _
    refine ⟨⟨LA, lc, by rw [← hW0, ← hR]; exact Blk.new w _ _, hcap, (hr.below hb0).more hb0.size, hLA⟩, H.below hb0, fun k hk => .inl hk, fun e => ?_, fun k hk => by simp [Value.ownBlock] at hk, World.ownsRow_nil _ _ _ _, Keep.of_below hb0, by omega, hB, hBl⟩
    have := H.lt R e
    omega
  have HR := Lib.hid hR
  have HW0 := Lib.hid hW0
  have HD0 := Lib.hid hD0
  have HH := Lib.hid hH
  obtain ⟨i0, hi, hz0, hz1, hz2⟩ := info_parts fld_info
  have HI := Lib.hid hi
  have HZ0 := Lib.hid hz0
  have HZ1 := Lib.hid hz1
  have HZ2 := Lib.hid hz2
  clear hR hW0 hD0 hH H hr hBl hi hz0 hz1 hz2 hLA
  go_enter Tryz.func45, Tryz.ntmps45
  go_wp2_with fail
  rw [HW0.out, HR.out]
  go_loopg [4] b.length (fun n v wr => ∃ bk yk mk acc A' c', Hid (bk.length = n) ∧ bk.length ≤ 140737488355328 ∧ Hid (DAt w wr C h A A' c' R B bk yk mk most v acc qq) ∧ Hid (heard most yk mk acc bk = ⟨0, ys', my', L, 0⟩))
  case atStart => exact ⟨b, ys, my, [], A, c, rfl, hm, HD0.out, HH.out⟩
  case round =>
    obtain ⟨bk, yk, mk, acc, A', c', HLEN, hbm, HD, HHk⟩ := hrel
    obtain ⟨⟨ra, rc, r0, rbF⟩, r1, f1, rl, d1, d2, dl⟩ := HD.out.cells
    rcases Nat.eq_zero_or_pos bk.length with h0 | h0
    · have hb0 : bk = [] := List.eq_nil_of_length_eq_zero h0
      subst hb0
      have hh := HHk.out
      rw [heard_nil] at hh
      simp only [Step.mk.injEq, true_and, and_true] at hh
      obtain ⟨rfl, rfl, rfl⟩ := hh
      obtain ⟨VA, vc, hv⟩ := own_slice HD.out.row
      have hrow := HD.out.row
      rw [hv] at hrow
      have HRW := Lib.hid hrow
      have HDN := Lib.hid (show InDone w wr C h A yk mk most qq from ⟨A', c', HD.out.ci, HD.out.kp, HD.out.fr⟩)
      clear hrow rbF h0
      subst hv
      go_wp2
      go_ret2
      exact ⟨VA, _, vc, rfl, rfl, HRW.out, HDN.out⟩
    · obtain ⟨bb, off, rfl, rb⟩ := rbF h0
      clear rbF
      have hne : bk ≠ [] := fun e => by rw [e] at h0; simp at h0
      have HGO := Lib.hid (heard_go hne HHk.out rfl)
      have h0i : (0 : Int) < ((bk.length : Nat) : Int) := by omega
      have hF := HD.out.fld (.string ⟨#[]⟩) (.string ⟨#[]⟩)
      obtain ⟨F, hFF⟩ : ∃ F, wr.heap.size = F := ⟨_, rfl⟩
      obtain ⟨W1, hW1⟩ : ∃ W1, wr.alloc (.cells #[.string ⟨#[]⟩, .string ⟨#[]⟩] 41) = W1 := ⟨_, rfl⟩
      rw [hFF, hW1] at hF
      have HF := Lib.hid hF
      have HW1 := Lib.hid hW1
      have HFF := Lib.hid hFF
      clear hF hW1 hFF
      go_upto_region 4 with fail
      rw [HW1.out, HFF.out]
      clear r0 r1 f1 rl rb d1 d2 dl HW1 HFF
      obtain ⟨⟨ra, rc', r0, rbF⟩, r1, f1, rl, d1, d2, dl⟩ := HF.out.d.cells
      obtain ⟨bb', off', rfl, rb⟩ := rbF h0
      clear rbF
      obtain ⟨y0, hy0⟩ : ∃ y0, (bk.headD 0).toNat = y0 := ⟨_, rfl⟩
      rw [hy0] at rb
      have HY0 := Lib.hid hy0
      clear hy0
      go_upto_region 6 with fail
      by_cases h128 : 128 ≤ y0
      · have i1 : (128 : Int) ≤ ((y0 : Nat) : Int) := by omega
        have i2 := decide_eq_true i1
        have i3 := decide_eq_true h128
        go_upto_region 7 with fail
        obtain ⟨k, U, hg, hk, htm, hS⟩ := heardS_hi HGO.out.1 (by rw [HY0.out]; exact h128)
        have hgo2 := HGO.out
        rw [hS] at hgo2
        obtain ⟨-, hnx, hU1, hU2⟩ := hgo2
        simp only at hnx hU1 hU2
        obtain ⟨f, hf⟩ : ∃ f, (tAll yk).getD k ([], []) = f := ⟨_, rfl⟩
        rw [hf] at htm hnx
        have HFk := Lib.hid hf
        have HG := Lib.hid hg
        have HNX := Lib.hid hnx
        have HTM := Lib.hid htm
        clear hS hg hf hnx htm r0 rb d2 i1 i2 i3 h0i h0
        go_wp2_with fail
        refine (rnum_ok HF.out.d.rd HF.out.d.bR hbm 7 (k + 1) U HG.out).mono ?_
        rintro e w2 ⟨rfl, hr2, hk2⟩
        have h2 := HF.out.read hr2 hk2
        clear r1 f1 rl d1 dl
        obtain ⟨-, r1, f1, rl, d1, d2, dl⟩ := h2.d.cells
        have H2 := Lib.hid h2
        clear h2 hr2 hk2
        go_wp2_with fail
        refine (get_yes H2.out.d.ci.tab k hk f HFk.out).mono ?_
        rintro e w3 ⟨rfl, hb3⟩
        have h3 := H2.out.next hb3
        clear r1 f1 rl d1 d2 dl
        obtain ⟨-, r1, f1, rl, d1, d2, dl⟩ := h3.d.cells
        obtain ⟨c0, c1, g0, g1, cF⟩ := h3.cells
        have rne := h3.fR
        have H4 := Lib.hid (h3.put (.string ⟨f.1.toArray⟩) (.string ⟨f.2.toArray⟩)).noErr
        clear h3 hb3
        go_upto_region 23 with fail
        obtain ⟨W4, hW4⟩ : ∃ W4, ((w3.setCell ⟨F, 0, none⟩ (.string ⟨f.1.toArray⟩)).setCell ⟨F, 1, none⟩ (.string ⟨f.2.toArray⟩)).setCell ⟨R, 1, none⟩ .nilIface = W4 := ⟨_, rfl⟩
        rw [hW4]
        have H4 := Lib.hid (show DFt w W4 C h A A' c' R B (bk.drop U) yk mk most u4 acc F (.string ⟨f.1.toArray⟩) (.string ⟨f.2.toArray⟩) qq by rw [← hW4]; exact H4.out)
        clear hW4 r1 f1 rl d1 d2 dl c0 c1 g0 g1 cF rne
        have hnx := HNX.out
        have htm := HTM.out
        obtain ⟨-, r1, f1, rl, d1, d2, dl⟩ := H4.out.d.cells
        obtain ⟨c0, c1, -, -, cF⟩ := H4.out.cells
        obtain ⟨hfo, hl40⟩ := fOk_little htm
        have hla : acc.length + 1 ≤ 40 := by rw [List.length_append] at hl40; exact hl40
        have hTA : Reads (W4.alloc (.cells #[.string ⟨f.1.toArray⟩, .string ⟨f.2.toArray⟩] 41)) (W4.heap.size + 1) 2 (some ⟨W4.heap.size, 0, none⟩) 1 [.string ⟨f.1.toArray⟩, .string ⟨f.2.toArray⟩] := fld_tmp W4 f
        have hD5 := H4.out.d.next ((Below.refl W4.heap.size W4).alloc (Nat.le_refl _) (.cells #[.string ⟨f.1.toArray⟩, .string ⟨f.2.toArray⟩] 41))
        have HTA := Lib.hid hTA
        have HD5 := Lib.hid hD5
        have HFO := Lib.hid hfo
        have H40 := Lib.hid hl40
        have HBA := Lib.hid (show w.heap.size ≤ (W4.alloc (.cells #[.string ⟨f.1.toArray⟩, .string ⟨f.2.toArray⟩] 41)).heap.size from hD5.kp.size)
        clear hTA hD5 hfo hl40
        go_wp2_with (at_builtin; refine wpList_append_any _ rfl _ _ 22 rfl w.heap.size 41 i0 (.agg #[.string ⟨#[]⟩, .string ⟨#[]⟩]) 2 32 Tryz.underlying22 HI.out HZ0.out HZ1.out HZ2.out rfl (by decide) _ _ _ rfl HD5.out.row (W4.heap.size + 1) (some ⟨W4.heap.size, 0, none⟩) 1 1 [.string ⟨f.1.toArray⟩, .string ⟨f.2.toArray⟩] rfl HTA.out (fld_one f) (by unfold maxLen; omega) (by omega) HBA.out ?_; intro v2 w5 hown2 hg2 hv2; have HD6 := Lib.hid (HD5.out.push f hown2 hg2 hv2); obtain ⟨A2, c2, rfl⟩ := own_slice hown2; clear hown2 hg2 hv2)
        refine (full_any (acc ++ [f]) HFO.out (by have := H40.out; omega) A2 _ c2 (by simp) w5 (by have h := HD6.out.row; rw [show acc.length + 1 = (acc ++ [f]).length by simp] at h; exact reads_own h)).mono ?_
        rintro e w6 ⟨rfl, hb6⟩
        have HD7 := Lib.hid (HD6.out.next hb6)
        clear hb6
        rw [htm]
        go_wp2_with fail
        go_roundg (bk.drop U).length
        case measure => rw [List.length_drop]; have := HLEN.out; omega
        case rel => exact ⟨bk.drop U, _, _, acc ++ [f], _, _, rfl, by rw [List.length_drop]; omega, HD7.out, hnx⟩
      · have i1 : ¬ (128 : Int) ≤ ((y0 : Nat) : Int) := by omega
        have i2 := decide_eq_false i1
        have i3 := decide_eq_false h128
        by_cases h64 : 64 ≤ y0
        · have i4 : (64 : Int) ≤ ((y0 : Nat) : Int) := by omega
          have i5 := decide_eq_true i4
          have i6 := decide_eq_true h64
          obtain ⟨f, U, hg, htm, hS⟩ := heardS_mid HGO.out.1 (by rw [HY0.out]; exact h128) (by rw [HY0.out]; exact h64)
          have hgo2 := HGO.out
          rw [hS] at hgo2
          obtain ⟨-, hnx, hU1, hU2⟩ := hgo2
          simp only at hnx hU1 hU2
          have HG := Lib.hid hg
          have HNX := Lib.hid hnx
          have HTM := Lib.hid htm
          have hfk := (fOk_little htm).1 f (by simp)
          clear hS hg hnx htm r0 rb d2 h0i h0
          go_wp2_with fail
          refine (lit_ok HF.out.d.ci HF.out.d.rd (Nat.lt_of_lt_of_le HF.out.d.bw HF.out.d.kp.size) HF.out.d.bR HF.out.d.nR hbm 6 f U HG.out).mono ?_
          rintro e w2 ⟨rfl, hr2, hk2⟩
          have h2 := HF.out.read hr2 hk2
          clear r1 f1 rl d1 dl
          obtain ⟨-, r1, f1, rl, d1, d2, dl⟩ := h2.d.cells
          obtain ⟨c0, c1, g0, g1, cF⟩ := h2.cells
          have H4 := Lib.hid (h2.put (.string ⟨f.1.toArray⟩) (.string ⟨f.2.toArray⟩))
          clear h2 hr2 hk2 i1 i2 i3 i4 i5 i6
          go_upto_region 12 with fail
          obtain ⟨W3, hW3⟩ : ∃ W3, (w2.setCell ⟨F, 0, none⟩ (.string ⟨f.1.toArray⟩)).setCell ⟨F, 1, none⟩ (.string ⟨f.2.toArray⟩) = W3 := ⟨_, rfl⟩
          rw [hW3]
          have H3 := Lib.hid (show DFt w W3 C h A A' c' R B (bk.drop U) yk mk most u4 acc F (.string ⟨f.1.toArray⟩) (.string ⟨f.2.toArray⟩) qq by rw [← hW3]; exact H4.out)
          clear hW3 r1 f1 rl d1 d2 dl c0 c1 g0 g1 cF H4
          have r1 := H3.out.d.cells.2.1
          have d1 := H3.out.d.cells.2.2.2.2.1
          have c0 := H3.out.cells.1
          have c1 := H3.out.cells.2.1
          go_upto_region 13 with fail
          go_still_tail 5, (by kernel_rfl)
          have H3D := Lib.hid (H3.out.next ((Below.refl _ W3).drew))
          change wpList _ _ _ _ _ W3.drew
          generalize W3.drew = w3 at *
          clear r1 d1 c0 c1
          go_wp2_with fail
          refine (add_any H3D.out.d.ci.tab f hfk).mono ?_
          rintro e W4 ⟨rfl, hadd⟩
          obtain ⟨A2', c2', h4⟩ := H3D.out.add f hadd
          have H4 := Lib.hid h4
          clear h4 hadd
          go_upto_region 23 with fail
          have hnx := HNX.out
          have htm := HTM.out
          obtain ⟨-, r1, f1, rl, d1, d2, dl⟩ := H4.out.d.cells
          obtain ⟨c0, c1, -, -, cF⟩ := H4.out.cells
          obtain ⟨hfo, hl40⟩ := fOk_little htm
          have hla : acc.length + 1 ≤ 40 := by rw [List.length_append] at hl40; exact hl40
          have hTA : Reads (W4.alloc (.cells #[.string ⟨f.1.toArray⟩, .string ⟨f.2.toArray⟩] 41)) (W4.heap.size + 1) 2 (some ⟨W4.heap.size, 0, none⟩) 1 [.string ⟨f.1.toArray⟩, .string ⟨f.2.toArray⟩] := fld_tmp W4 f
          have hD5 := H4.out.d.next ((Below.refl W4.heap.size W4).alloc (Nat.le_refl _) (.cells #[.string ⟨f.1.toArray⟩, .string ⟨f.2.toArray⟩] 41))
          have HTA := Lib.hid hTA
          have HD5 := Lib.hid hD5
          have HFO := Lib.hid hfo
          have H40 := Lib.hid hl40
          have HBA := Lib.hid (show w.heap.size ≤ (W4.alloc (.cells #[.string ⟨f.1.toArray⟩, .string ⟨f.2.toArray⟩] 41)).heap.size from hD5.kp.size)
          clear hTA hD5 hfo hl40
          go_wp2_with (at_builtin; refine wpList_append_any _ rfl _ _ 22 rfl w.heap.size 41 i0 (.agg #[.string ⟨#[]⟩, .string ⟨#[]⟩]) 2 32 Tryz.underlying22 HI.out HZ0.out HZ1.out HZ2.out rfl (by decide) _ _ _ rfl HD5.out.row (W4.heap.size + 1) (some ⟨W4.heap.size, 0, none⟩) 1 1 [.string ⟨f.1.toArray⟩, .string ⟨f.2.toArray⟩] rfl HTA.out (fld_one f) (by unfold maxLen; omega) (by omega) HBA.out ?_; intro v2 w5 hown2 hg2 hv2; have HD6 := Lib.hid (HD5.out.push f hown2 hg2 hv2); obtain ⟨A2, c2, rfl⟩ := own_slice hown2; clear hown2 hg2 hv2)
          refine (full_any (acc ++ [f]) HFO.out (by have := H40.out; omega) A2 _ c2 (by simp) w5 (by have h := HD6.out.row; rw [show acc.length + 1 = (acc ++ [f]).length by simp] at h; exact reads_own h)).mono ?_
          rintro e w6 ⟨rfl, hb6⟩
          have HD7 := Lib.hid (HD6.out.next hb6)
          clear hb6
          rw [htm]
          go_wp2_with fail
          go_roundg (bk.drop U).length
          case measure => rw [List.length_drop]; have := HLEN.out; omega
          case rel => exact ⟨bk.drop U, _, _, acc ++ [f], _, _, rfl, by rw [List.length_drop]; omega, HD7.out, hnx⟩

        · have i4 : ¬ (64 : Int) ≤ ((y0 : Nat) : Int) := by omega
          have i5 := decide_eq_false i4
          have i6 := decide_eq_false h64
          by_cases h32 : 32 ≤ y0
          · have i7 : (32 : Int) ≤ ((y0 : Nat) : Int) := by omega
            have i8 := decide_eq_true i7
            have i9 := decide_eq_true h32
            obtain ⟨N, U, hg, hNm, hl0, hS⟩ := heardS_size HGO.out.1 (by rw [HY0.out]; exact h128) (by rw [HY0.out]; exact h64) (by rw [HY0.out]; exact h32)
            subst hl0
            have hgo2 := HGO.out
            rw [hS] at hgo2
            obtain ⟨-, hnx, hU1, hU2⟩ := hgo2
            simp only at hnx hU1 hU2
            have HG := Lib.hid hg
            have HNX := Lib.hid hnx
            obtain ⟨VA, vc, hv⟩ := own_slice HF.out.d.row
            have hn1 : ¬ ((most : Nat) : Int) < ((N : Nat) : Int) := by omega
            have hn2 := decide_eq_false hn1
            have hn3 : decide (most < N) = false := by simp; omega
            clear hS hg hnx r0 rb d2 h0i h0
            subst hv
            go_wp2_with fail
            refine (rnum_ok HF.out.d.rd HF.out.d.bR hbm 5 N U HG.out).mono ?_
            rintro e w2 ⟨rfl, hr2, hk2⟩
            have h2 := HF.out.read hr2 hk2
            clear r1 f1 rl d1 dl
            obtain ⟨-, r1, f1, rl, d1, d2, dl⟩ := h2.d.cells
            have H2 := Lib.hid h2
            clear h2 hr2 hk2
            go_wp2_with fail
            refine (resize_yes H2.out.d.ci.tab N (by omega)).mono ?_
            rintro e w3 ⟨rfl, ht3, hk3⟩
            have h3 := H2.out.d.size ht3 hk3
            have H3 := Lib.hid h3.noErr
            clear r1 f1 rl d1 d2 dl hn1 hn2 hn3
            obtain ⟨-, r1, f1, rl, d1, d2, dl⟩ := h3.cells
            clear h3 ht3 hk3
            go_wp2_with fail
            go_roundg (bk.drop U).length
            case measure => rw [List.length_drop]; have := HLEN.out; omega
            case rel => exact ⟨bk.drop U, _, _, [], _, _, rfl, by rw [List.length_drop]; omega, H3.out, HNX.out⟩
          · have i7 : ¬ (32 : Int) ≤ ((y0 : Nat) : Int) := by omega
            have i8 := decide_eq_false i7
            have i9 := decide_eq_false h32
            obtain ⟨f, U, hg, htm, hS⟩ := heardS_low HGO.out.1 (by rw [HY0.out]; exact h128) (by rw [HY0.out]; exact h64) (by rw [HY0.out]; exact h32)
            have hgo2 := HGO.out
            rw [hS] at hgo2
            obtain ⟨-, hnx, hU1, hU2⟩ := hgo2
            simp only at hnx hU1 hU2
            have HG := Lib.hid hg
            have HNX := Lib.hid hnx
            have HTM := Lib.hid htm
            have hfk := (fOk_little htm).1 f (by simp)
            clear hS hg hnx htm r0 rb d2 h0i h0
            go_wp2_with fail
            refine (lit_ok HF.out.d.ci HF.out.d.rd (Nat.lt_of_lt_of_le HF.out.d.bw HF.out.d.kp.size) HF.out.d.bR HF.out.d.nR hbm 4 f U HG.out).mono ?_
            rintro e w2 ⟨rfl, hr2, hk2⟩
            have h2 := HF.out.read hr2 hk2
            clear r1 f1 rl d1 dl
            obtain ⟨-, r1, f1, rl, d1, d2, dl⟩ := h2.d.cells
            obtain ⟨c0, c1, g0, g1, cF⟩ := h2.cells
            have H4 := Lib.hid (h2.put (.string ⟨f.1.toArray⟩) (.string ⟨f.2.toArray⟩))
            clear h2 hr2 hk2 i1 i2 i3 i4 i5 i6 i7 i8 i9
            go_upto_region 23 with fail
            obtain ⟨W4, hW4⟩ : ∃ W4, (w2.setCell ⟨F, 0, none⟩ (.string ⟨f.1.toArray⟩)).setCell ⟨F, 1, none⟩ (.string ⟨f.2.toArray⟩) = W4 := ⟨_, rfl⟩
            rw [hW4]
            have H4 := Lib.hid (show DFt w W4 C h A A' c' R B (bk.drop U) yk mk most u4 acc F (.string ⟨f.1.toArray⟩) (.string ⟨f.2.toArray⟩) qq by rw [← hW4]; exact H4.out)
            clear hW4 r1 f1 rl d1 d2 dl c0 c1 g0 g1 cF
            have hnx := HNX.out
            have htm := HTM.out
            obtain ⟨-, r1, f1, rl, d1, d2, dl⟩ := H4.out.d.cells
            obtain ⟨c0, c1, -, -, cF⟩ := H4.out.cells
            obtain ⟨hfo, hl40⟩ := fOk_little htm
            have hla : acc.length + 1 ≤ 40 := by rw [List.length_append] at hl40; exact hl40
            have hTA : Reads (W4.alloc (.cells #[.string ⟨f.1.toArray⟩, .string ⟨f.2.toArray⟩] 41)) (W4.heap.size + 1) 2 (some ⟨W4.heap.size, 0, none⟩) 1 [.string ⟨f.1.toArray⟩, .string ⟨f.2.toArray⟩] := fld_tmp W4 f
            have hD5 := H4.out.d.next ((Below.refl W4.heap.size W4).alloc (Nat.le_refl _) (.cells #[.string ⟨f.1.toArray⟩, .string ⟨f.2.toArray⟩] 41))
            have HTA := Lib.hid hTA
            have HD5 := Lib.hid hD5
            have HFO := Lib.hid hfo
            have H40 := Lib.hid hl40
            have HBA := Lib.hid (show w.heap.size ≤ (W4.alloc (.cells #[.string ⟨f.1.toArray⟩, .string ⟨f.2.toArray⟩] 41)).heap.size from hD5.kp.size)
            clear hTA hD5 hfo hl40
            go_wp2_with (at_builtin; refine wpList_append_any _ rfl _ _ 22 rfl w.heap.size 41 i0 (.agg #[.string ⟨#[]⟩, .string ⟨#[]⟩]) 2 32 Tryz.underlying22 HI.out HZ0.out HZ1.out HZ2.out rfl (by decide) _ _ _ rfl HD5.out.row (W4.heap.size + 1) (some ⟨W4.heap.size, 0, none⟩) 1 1 [.string ⟨f.1.toArray⟩, .string ⟨f.2.toArray⟩] rfl HTA.out (fld_one f) (by unfold maxLen; omega) (by omega) HBA.out ?_; intro v2 w5 hown2 hg2 hv2; have HD6 := Lib.hid (HD5.out.push f hown2 hg2 hv2); obtain ⟨A2, c2, rfl⟩ := own_slice hown2; clear hown2 hg2 hv2)
            refine (full_any (acc ++ [f]) HFO.out (by have := H40.out; omega) A2 _ c2 (by simp) w5 (by have h := HD6.out.row; rw [show acc.length + 1 = (acc ++ [f]).length by simp] at h; exact reads_own h)).mono ?_
            rintro e w6 ⟨rfl, hb6⟩
            have HD7 := Lib.hid (HD6.out.next hb6)
            clear hb6
            rw [htm]
            go_wp2_with fail
            go_roundg (bk.drop U).length
            case measure => rw [List.length_drop]; have := HLEN.out; omega
            case rel => exact ⟨bk.drop U, _, _, acc ++ [f], _, _, rfl, by rw [List.length_drop]; omega, HD7.out, hnx⟩

end Go.Proofs.YtbgnggkgmeagkaaGreatDoor
namespace Go.Proofs.YtbgnggkgmeagkaaGreatDoor
open Go.RowKit
variable {qq : Value × Value}
attribute [local go_sem ↓] Go.wp_at_zero Go.wp_at_succ

set_option maxRecDepth 100000 in
set_option maxHeartbeats 2000000 in
theorem cdecode_ok {w : World} {C h : Nat} {A : Option Addr} {c : Nat} {ys : List Fld} {my most : Nat} (H : CIn w C h A c ys my most false qq) (hmost : most ≤ 4096) (b : List UInt8) (LA : Option Addr) (n lc : Nat) (hn : n = b.length) (hcap : b.length ≤ lc) (hm : b.length ≤ 140737488355328) (B : Nat) (hB : B < w.heap.size) (hBl : ¬ iOwn C h A B) (hr : Reads w w.heap.size 1 LA b.length (bs b)) (hLA : ∀ ad, LA = some ad → ad.block = B)
    (ys' : List Fld) (my' : Nat) (L : List Fld) (hH : heard most ys my [] b = ⟨0, ys', my', L, 0⟩) :
    Calls Tryz.prog 11 #[.pointer (some ⟨C, 0, none⟩), .slice LA n lc] w fun e w' => ∃ A2 n2 c2, e = .returned (.tuple #[.slice A2 n2 c2, .nilIface]) ∧ n2 = L.length ∧ w'.ownsRow w.heap.size 41 2 (.slice A2 n2 c2) n2 (fvs L) ∧ InDone w w' C h A ys' my' most qq := by
  subst hn
  have hcd := cdec_ok H hmost b LA _ lc rfl hcap hm B hB hBl hr hLA ys' my' L hH
  obtain ⟨hb, ht⟩ := H
  have c4 := hb.cell 4
  have HCD := Lib.hid hcd
  have HC := Lib.hid hb.lt
  clear hb ht hr hH hcd hBl hLA
  go_enter Tryz.func11, Tryz.ntmps11
  go_wp2_with fail
  refine HCD.out.mono ?_
  rintro e w1 ⟨A2, n2, c2, rfl, rfl, hrow, A', c', hci, hkp, hfr⟩
  obtain ⟨hb2, ht2⟩ := hci
  have c4 := hb2.cell 4
  have f4 := hb2.frozen 4
  have hl4 := hb2.lt
  have k3 : Keep (fun k => k = C) w1 (w1.setCell ⟨C, 4, none⟩ (.bool false)) := (Keep.refl (fun k => k = C) w1).setCell (p := ⟨C, 4, none⟩) (.inl rfl) _
  have hCt : ¬ tOwn h A' C := by
    rintro (rfl | ⟨a, ha, he⟩)
    · exact Blk.ne_ hb2 ht2.blk (by decide) rfl
    · have := own_blk_ne ht2.own hb2 (by decide)
      rw [ha] at this
      exact this (by simp [Value.ownBlock, he])
  have hrow2 := ownRow_keep hrow k3 fun k hk he => own_blk_ne hrow hb2 (by decide) (he ▸ hk)
  have hb3 := hb2.set_ 4 (.bool false)
  have HD := Lib.hid (show InDone w (w1.setCell ⟨C, 4, none⟩ (.bool false)) C h A ys' my' most qq from ⟨A', c', ⟨by simpa using hb3, ht2.keep k3 fun k hk he => hCt (he ▸ hk)⟩, hkp.trans k3 fun i hi => .inl (.inl hi), hfr⟩)
  have HRW := Lib.hid hrow2
  clear hb2 ht2 k3 hrow2 hb3 hrow hkp hfr hCt
  go_wp2
  go_ret2
  exact ⟨A2, _, c2, rfl, rfl, HRW.out, HD.out⟩
end Go.Proofs.YtbgnggkgmeagkaaGreatDoor
namespace Go.Proofs.YtbgnggkgmeagkaaGreatDoor
open Go.RowKit

theorem below_dF {B : Nat} {w w1 : World} (h : Below B w w1) (n : Nat) : Below B w (w1.drewN n) := ⟨h.os, h.tape, h.output, h.size, h.block⟩
end Go.Proofs.YtbgnggkgmeagkaaGreatDoor
namespace Go.Proofs.YtbgnggkgmeagkaaGreatDoor
open Go.RowKit

def COutE (w : World) (C g : Nat) (A : Option Addr) (c : Nat) (Sv : Value) (xs : List Fld) (mx : Nat) (ps : List Nat) : Prop := ∃ qo, COut w C g A c Sv xs mx ps qo
def CInE (w : World) (C h : Nat) (A : Option Addr) (c : Nat) (ys : List Fld) (my most : Nat) (bad : Bool) : Prop := ∃ qq, CIn w C h A c ys my most bad qq
section
variable {w w' : World} {C g h : Nat} {A : Option Addr} {c : Nat} {Sv : Value} {xs ys : List Fld} {mx my most : Nat} {ps : List Nat} {bad : Bool} {S : Nat → Prop}
theorem COutE.keep (H : COutE w C g A c Sv xs mx ps) (hk : Keep S w w') (hS : ∀ k, oOwn C g A Sv k → ¬ S k) : COutE w' C g A c Sv xs mx ps := let ⟨q, h⟩ := H; ⟨q, h.keep hk hS⟩
theorem COutE.below (H : COutE w C g A c Sv xs mx ps) (hb : Below w.heap.size w w') : COutE w' C g A c Sv xs mx ps := let ⟨q, h⟩ := H; ⟨q, h.below hb⟩
theorem COutE.lt (H : COutE w C g A c Sv xs mx ps) : ∀ k, oOwn C g A Sv k → k < w.heap.size := let ⟨_, h⟩ := H; h.lt
theorem COutE.wt (H : COutE w C g A c Sv xs mx ps) : Go.Proofs.YtbgnggkgmeagkaaGreatDoor.wt xs ≤ 4096 ∧ mx ≤ 4096 := let ⟨_, h⟩ := H; ⟨h.tab.wt, h.tab.mx⟩
theorem CInE.keep (H : CInE w C h A c ys my most bad) (hk : Keep S w w') (hS : ∀ k, iOwn C h A k → ¬ S k) : CInE w' C h A c ys my most bad := let ⟨q, h⟩ := H; ⟨q, h.keep hk hS⟩
theorem CInE.below (H : CInE w C h A c ys my most bad) (hb : Below w.heap.size w w') : CInE w' C h A c ys my most bad := let ⟨q, h⟩ := H; ⟨q, h.below hb⟩
theorem CInE.lt (H : CInE w C h A c ys my most bad) : ∀ k, iOwn C h A k → k < w.heap.size := let ⟨_, h⟩ := H; h.lt
end
/-- Two coders in one world, nothing of theirs below the law's own call. -/
structure HB (w0 wr : World) (C g : Nat) (A : Option Addr) (c : Nat) (Sv : Value) (xs : List Fld) (mx : Nat) (ps : List Nat) (D h : Nat) (A' : Option Addr) (c' : Nat) (ys : List Fld) (my max : Nat) : Prop where
  co : COutE wr C g A c Sv xs mx ps
  ci : CInE wr D h A' c' ys my max false
  al : Alike max xs mx ps ys my
  sv : ps = [] → Sv = .slice none 0 0
  ob : ∀ k, oOwn C g A Sv k → w0.heap.size ≤ k
  ib : ∀ k, iOwn D h A' k → w0.heap.size ≤ k
  dj : ∀ k, oOwn C g A Sv k → ¬ iOwn D h A' k
  bw : Below w0.heap.size w0 wr
section
variable {w0 wr w1 : World} {C g c mx D h c' my max : Nat} {A A' : Option Addr} {Sv : Value} {xs ys : List Fld} {ps : List Nat}
theorem HB.next (H : HB w0 wr C g A c Sv xs mx ps D h A' c' ys my max) (hb : Below wr.heap.size wr w1) : HB w0 w1 C g A c Sv xs mx ps D h A' c' ys my max :=
  ⟨H.co.below hb, H.ci.below hb, H.al, H.sv, H.ob, H.ib, H.dj, H.bw.trans (hb.mono H.bw.size)⟩
theorem hb_new {w w1 w2 : World} {m C g D h : Nat} (hm : m ≤ 4096) {qo : Value × Value × Value} {qq : Value × Value} (h1o : COut w1 C g none 0 (.slice none 0 0) [] m [] qo) (hb1 : Below w.heap.size w w1) (hC : w.heap.size ≤ C) (hg : w.heap.size ≤ g) (h2i : CIn w2 D h none 0 [] m m false qq) (hb2 : Below w1.heap.size w1 w2) (hD : w1.heap.size ≤ D) (hh : w1.heap.size ≤ h) :
    HB w w2 C g none 0 (.slice none 0 0) [] m [] D h none 0 [] m m := by
  have hs := hb1.size
  have hlt := h1o.lt
  refine ⟨⟨_, h1o.below hb2⟩, ⟨_, h2i⟩, Alike.new m hm, fun _ => rfl, ?_, ?_, ?_, hb1.trans (hb2.mono hb1.size)⟩
  · rintro k (rfl | (rfl | ⟨a, ha, _⟩) | hk)
    · exact hC
    · exact hg
    · cases ha
    · simp [Value.ownBlock] at hk
  · rintro k (rfl | (rfl | ⟨a, ha, _⟩))
    · omega
    · omega
    · cases ha
  · intro k hk hi
    have h1 := hlt k hk
    rcases hi with rfl | (rfl | ⟨a, ha, _⟩)
    · omega
    · omega
    · cases ha
/-- What stays of the hearer, what the sayer does. -/
theorem HB.out {w1 : World} {A2 : Option Addr} {c2 mx2 : Nat} {Sv2 : Value} {xs2 : List Fld} {ps2 : List Nat} (H : HB w0 wr C g A c Sv xs mx ps D h A' c' ys my max) (hco : COutE w1 C g A2 c2 Sv2 xs2 mx2 ps2) (hk : Keep (oOwn C g A Sv) wr w1) (hf : ∀ k, oOwn C g A2 Sv2 k → oOwn C g A Sv k ∨ wr.heap.size ≤ k) :
    CInE w1 D h A' c' ys my max false ∧ (∀ k, oOwn C g A2 Sv2 k → w0.heap.size ≤ k) ∧ (∀ k, oOwn C g A2 Sv2 k → ¬ iOwn D h A' k) ∧ Below w0.heap.size w0 w1 := by
  have hil := H.ci.lt
  refine ⟨H.ci.keep hk fun k hi ho => H.dj k ho hi, fun k ho => ?_, fun k ho hi => ?_, H.bw.trans (hk.below H.bw.size H.ob)⟩
  · rcases hf k ho with h1 | h1
    · exact H.ob k h1
    · exact Nat.le_trans H.bw.size h1
  · rcases hf k ho with h1 | h1
    · exact H.dj k h1 hi
    · have := hil k hi
      omega
theorem hb_resize (H : HB w0 wr C g A c Sv xs mx ps D h A' c' ys my max) (p : Nat) (hp : p ≤ max) (hl : ps.length ≤ 1000000) :
    Calls Tryz.prog 280 #[.pointer (some ⟨C, 0, none⟩), .int .i64 (p : Int)] wr fun e w' => e = .returned .nilIface ∧ ∃ A2 c2 Sv2, HB w0 w' C g A2 c2 Sv2 (shr p xs) p (ps ++ [p]) D h A' c' ys my max := by
  have hmm := H.al.mmax
  obtain ⟨qo, hco⟩ := H.co
  refine (cresize_yes hco p (by omega) hl).mono ?_
  rintro e w' ⟨he, A2, c2, Sv2, h1, h2, h3⟩
  have h1 := (⟨qo, h1⟩ : COutE _ _ _ _ _ _ _ _ _)
  obtain ⟨k1, k2, k3, k4⟩ := H.out h1 h2 h3
  exact ⟨he, A2, c2, Sv2, h1, k1, H.al.resize p hp, fun h => by simp at h, k2, H.ib, k3, k4⟩
theorem hb_fault (H : HB w0 wr C g A c Sv xs mx ps D h A' c' ys my max) (l : List Fld) (hf : ∀ f ∈ l, fOk f) (hm : l.length ≤ 140737488355328) (hE : saidE l ≠ 0) (LA : Option Addr) (n lc : Nat) (hn : n = l.length) (hr : Reads wr wr.heap.size 2 LA l.length (fvs l)) :
    Calls Tryz.prog 10 #[.pointer (some ⟨C, 0, none⟩), .slice LA n lc] wr fun e w' => e = .returned (.tuple #[.slice none 0 0, .iface 95 (.int .i64 4)]) ∧ HB w0 w' C g A c Sv xs mx ps D h A' c' ys my max := by
  refine (cenc_fault C l hf hm hE LA n lc hn wr hr).mono ?_
  rintro e w' ⟨he, hb⟩
  exact ⟨he, H.next hb⟩
/-- Said, not yet heard. -/
structure HM (w0 wr : World) (C g : Nat) (A : Option Addr) (c : Nat) (xs : List Fld) (mx D h : Nat) (A' : Option Addr) (c' : Nat) (ys : List Fld) (my max : Nat) (l : List Fld) (b : List UInt8) (A2 : Option Addr) (c2 B : Nat) : Prop where
  co : COutE wr C g A c (.slice none 0 0) xs mx []
  ci : CInE wr D h A' c' ys my max false
  al : Alike max xs mx [] xs mx
  hd : heard max ys my [] b = ⟨0, xs, mx, l, 0⟩
  ob : ∀ k, oOwn C g A (.slice none 0 0) k → w0.heap.size ≤ k
  ib : ∀ k, iOwn D h A' k → w0.heap.size ≤ k
  dj : ∀ k, oOwn C g A (.slice none 0 0) k → ¬ iOwn D h A' k
  bw : Below w0.heap.size w0 wr
  rd : Reads wr wr.heap.size 1 A2 b.length (bs b)
  cp : b.length ≤ c2
  sm : b.length ≤ 140737488355328
  bl : ∀ ad, A2 = some ad → ad.block = B
  bs_ : B < wr.heap.size
  bi : ¬ iOwn D h A' B
theorem hb_said (H : HB w0 wr C g A c Sv xs mx ps D h A' c' ys my max) (l : List Fld) (hf : ∀ f ∈ l, fOk f) (hm : l.length ≤ 140737488355328) (hpl : ps.length ≤ 1000000) (hE : saidE l = 0) (LA : Option Addr) (n lc : Nat) (hn : n = l.length) (hr : Reads wr wr.heap.size 2 LA l.length (fvs l)) (hLA : ∀ ad, LA = some ad → 0 < l.length → ¬ oOwn C g A Sv ad.block) :
    Calls Tryz.prog 10 #[.pointer (some ⟨C, 0, none⟩), .slice LA n lc] wr fun e w' => ∃ b A2 c2 A3 c3 B, e = .returned (.tuple #[.slice A2 b.length c2, .nilIface]) ∧ HM w0 w' C g A3 c3 (nextL mx xs l) mx D h A' c' ys my max l b A2 c2 B := by
  have hmm := H.al.mmax
  have hsaid := H.al.said l hE
  have hil := H.ci.lt
  obtain ⟨qo, hco⟩ := H.co
  refine (cenc_fine hco (fun p hp => Nat.le_trans (H.al.pmax p hp) hmm) H.sv hpl l hf hm hE LA n lc hn hr hLA).mono ?_
  rintro e w' ⟨A2, n2, c2, rfl, rfl, hc, hrd, hfr, A3, c3, h1, h2, h3, -, -⟩
  have h1 := (⟨qo, h1⟩ : COutE _ _ _ _ _ _ _ _ _)
  obtain ⟨k1, k2, k3, k4⟩ := H.out h1 h2 h3
  have hsm : (saidP ps ++ saidL mx xs l).length ≤ 140737488355328 := by
    have e1 := saidL_len mx H.co.wt.2 l xs H.co.wt.1
    have e2 := saidP_len ps (fun p hp => Nat.le_trans (H.al.pmax p hp) hmm)
    have e3 : l.length ≤ 40 := by
      unfold saidE at hE
      split at hE
      · cases hE
      · rename_i h
        simp only [Bool.or_eq_true, not_or, Bool.not_eq_true] at h
        exact (fOk_little h.1).2
    rw [List.length_append]
    omega
  cases A2 with
  | none =>
    have hCw := H.co.lt C (.inl rfl)
    refine ⟨_, none, c2, A3, c3, C, rfl, h1, k1, hsaid.2, hsaid.1, k2, H.ib, k3, k4, hrd, hc, hsm, (fun ad e => by cases e), ?_, H.dj C (.inl rfl)⟩
    have := h2.size
    omega
  | some ad =>
    have e1 := hfr ad rfl
    refine ⟨_, some ad, c2, A3, c3, ad.block, rfl, h1, k1, hsaid.2, hsaid.1, k2, H.ib, k3, k4, hrd, hc, hsm, (fun a e => by cases e; rfl), e1.2, fun hi => ?_⟩
    have := hil ad.block hi
    omega
theorem hb_heard {b : List UInt8} {l : List Fld} {A2 : Option Addr} {c2 B : Nat} (H : HM w0 wr C g A c xs mx D h A' c' ys my max l b A2 c2 B) :
    Calls Tryz.prog 11 #[.pointer (some ⟨D, 0, none⟩), .slice A2 b.length c2] wr fun e w' => ∃ A3 c3 A4 c4, e = .returned (.tuple #[.slice A3 l.length c3, .nilIface]) ∧ w'.ownsRow wr.heap.size 41 2 (.slice A3 l.length c3) l.length (fvs l) ∧ HB w0 w' C g A c (.slice none 0 0) xs mx [] D h A4 c4 xs mx max := by
  have hol := H.co.lt
  obtain ⟨qq, hci⟩ := H.ci
  refine (cdecode_ok hci H.al.mmax b A2 _ c2 rfl H.cp H.sm B H.bs_ H.bi H.rd H.bl xs mx l H.hd).mono ?_
  rintro e w' ⟨A3, n3, c3, rfl, rfl, hrow, A4, c4, h1, h2, h3⟩
  have h1 := (⟨qq, h1⟩ : CInE _ _ _ _ _ _ _ _ _)
  refine ⟨A3, c3, A4, c4, rfl, hrow, H.co.keep h2 (fun k ho hi => H.dj k ho hi), h1, H.al, fun _ => rfl, H.ob, fun k hi => ?_, fun k ho hi => ?_, H.bw.trans (h2.below H.bw.size H.ib)⟩
  · rcases h3 k hi with e1 | e1
    · exact H.ib k e1
    · exact Nat.le_trans H.bw.size e1
  · rcases h3 k hi with e1 | e1
    · exact H.dj k ho e1
    · have := hol k ho
      omega
end
end Go.Proofs.YtbgnggkgmeagkaaGreatDoor
