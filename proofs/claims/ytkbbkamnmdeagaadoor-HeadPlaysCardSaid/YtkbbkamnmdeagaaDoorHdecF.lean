/-
  A coder that hears: decode, where something is wrong. Condition: the bound on the bytes; the bytes lie below the coder's own blocks.
-/
import Derived.Test.YtkbbkamnmdeagaaDoorMHeadPlays21
import Derived.Test.YtkbbkamnmdeagaaDoorMHeadPlays22
namespace Go.Proofs.YtkbbkamnmdeagaaDoor
open Go.RowKit
attribute [local go_sem ↓] Go.wp_at_zero Go.wp_at_succ

theorem pushF_bad {xs : List Fld} {mx : Nat} {l : List Fld} {f : Fld} {n E : Nat} (h : (pushF xs mx l f n).e = E) (hE : E ≠ 0) : tooMuch (l ++ [f]) = true ∧ E = 4 := by
  unfold pushF at h
  cases hT : tooMuch (l ++ [f]) with
  | true => simp [hT] at h; exact ⟨rfl, h.symm⟩
  | false => simp [hT] at h; exact absurd h.symm hE
theorem heardS_hi_bad {most : Nat} {xs : List Fld} {mx : Nat} {l : List Fld} {b : List UInt8} {E : Nat} (h : (heardS most xs mx l b).e = E) (hE : E ≠ 0) (h1 : 128 ≤ (b.headD 0).toNat) :
    getV b 7 = (0, 0, E) ∨ (∃ N U, getV b 7 = (N, U, 0) ∧ (N < 1 ∨ 12 + xs.length < N) ∧ E = 5) ∨ ∃ k U, getV b 7 = (k + 1, U, 0) ∧ k < 12 + xs.length ∧ tooMuch (l ++ [(tAll xs).getD k ([], [])]) = true ∧ E = 4 := by
  obtain ⟨N, U, G, hg⟩ : ∃ N U G, getV b 7 = (N, U, G) := ⟨_, _, _, rfl⟩
  unfold heardS at h
  simp only [if_pos h1, hg] at h
  by_cases e1 : G ≠ 0
  · rw [if_pos e1] at h
    obtain ⟨rfl, rfl⟩ := getV_fault hg e1
    simp only at h
    subst h
    exact .inl hg
  rw [if_neg e1] at h
  have e1' : G = 0 := Decidable.not_not.1 e1
  subst e1'
  right
  by_cases e2 : N < 1 ∨ 12 + xs.length < N
  · rw [if_pos e2] at h
    exact .inl ⟨N, U, hg, e2, h.symm⟩
  rw [if_neg e2] at h
  obtain ⟨k, rfl⟩ : ∃ k, N = k + 1 := ⟨N - 1, by omega⟩
  obtain ⟨p1, p2⟩ := pushF_bad h hE
  exact .inr ⟨k, U, hg, by omega, p1, p2⟩
theorem heardS_mid_bad {most : Nat} {xs : List Fld} {mx : Nat} {l : List Fld} {b : List UInt8} {E : Nat} (h : (heardS most xs mx l b).e = E) (hE : E ≠ 0) (h1 : ¬ 128 ≤ (b.headD 0).toNat) (h2 : 64 ≤ (b.headD 0).toNat) :
    (∃ f U, litV xs b 6 = (f, U, E)) ∨ ∃ f U, litV xs b 6 = (f, U, 0) ∧ tooMuch (l ++ [f]) = true ∧ E = 4 := by
  obtain ⟨f, U, G, hg⟩ : ∃ f U G, litV xs b 6 = (f, U, G) := ⟨_, _, _, rfl⟩
  unfold heardS at h
  simp only [if_neg h1, if_pos h2, hg] at h
  by_cases e1 : G ≠ 0
  · rw [if_pos e1] at h
    simp only at h
    subst h
    exact .inl ⟨f, U, hg⟩
  rw [if_neg e1] at h
  obtain ⟨p1, p2⟩ := pushF_bad h hE
  exact .inr ⟨f, U, by rw [hg, Decidable.not_not.1 e1], p1, p2⟩
theorem heardS_low_bad {most : Nat} {xs : List Fld} {mx : Nat} {l : List Fld} {b : List UInt8} {E : Nat} (h : (heardS most xs mx l b).e = E) (hE : E ≠ 0) (h1 : ¬ 128 ≤ (b.headD 0).toNat) (h2 : ¬ 64 ≤ (b.headD 0).toNat) (h3 : ¬ 32 ≤ (b.headD 0).toNat) :
    (∃ f U, litV xs b 4 = (f, U, E)) ∨ ∃ f U, litV xs b 4 = (f, U, 0) ∧ tooMuch (l ++ [f]) = true ∧ E = 4 := by
  obtain ⟨f, U, G, hg⟩ : ∃ f U G, litV xs b 4 = (f, U, G) := ⟨_, _, _, rfl⟩
  unfold heardS at h
  simp only [if_neg h1, if_neg h2, if_neg h3, hg] at h
  by_cases e1 : G ≠ 0
  · rw [if_pos e1] at h
    simp only at h
    subst h
    exact .inl ⟨f, U, hg⟩
  rw [if_neg e1] at h
  obtain ⟨p1, p2⟩ := pushF_bad h hE
  exact .inr ⟨f, U, by rw [hg, Decidable.not_not.1 e1], p1, p2⟩
theorem heardS_size_bad {most : Nat} {xs : List Fld} {mx : Nat} {l : List Fld} {b : List UInt8} {E : Nat} (h : (heardS most xs mx l b).e = E) (hE : E ≠ 0) (h1 : ¬ 128 ≤ (b.headD 0).toNat) (h2 : ¬ 64 ≤ (b.headD 0).toNat) (h3 : 32 ≤ (b.headD 0).toNat) :
    getV b 5 = (0, 0, E) ∨ (∃ N U, getV b 5 = (N, U, 0) ∧ most < N ∧ E = 1) ∨ ∃ N U, getV b 5 = (N, U, 0) ∧ N ≤ most ∧ 0 < l.length ∧ E = 6 := by
  obtain ⟨N, U, G, hg⟩ : ∃ N U G, getV b 5 = (N, U, G) := ⟨_, _, _, rfl⟩
  unfold heardS at h
  simp only [if_neg h1, if_neg h2, if_pos h3, hg] at h
  by_cases e1 : G ≠ 0
  · rw [if_pos e1] at h
    obtain ⟨rfl, rfl⟩ := getV_fault hg e1
    simp only at h
    subst h
    exact .inl hg
  rw [if_neg e1] at h
  have e1' : G = 0 := Decidable.not_not.1 e1
  subst e1'
  right
  by_cases e2 : most < N
  · rw [if_pos e2] at h
    exact .inl ⟨N, U, hg, e2, h.symm⟩
  rw [if_neg e2] at h
  by_cases e3 : 0 < l.length
  · rw [if_pos e3] at h
    exact .inr ⟨N, U, hg, by omega, e3, h.symm⟩
  · rw [if_neg e3] at h
    exact absurd h.symm hE
theorem fOk_wt {l : List Fld} (h : wt l ≤ 4096) : ∀ f ∈ l, fOk f := by
  intro f hf
  have h1 : ∀ (l : List Fld), f ∈ l → fsz f ≤ wt l := by
    intro l
    induction l with
    | nil => intro h; cases h
    | cons x l ih =>
      intro hm
      rw [wt_cons]
      rcases List.mem_cons.1 hm with rfl | hm
      · omega
      · have := ih hm
        omega
  have h2 := h1 l hf
  unfold fsz at h2
  constructor <;> omega
theorem fOk_tAll {xs : List Fld} (h : wt xs ≤ 4096) (k : Nat) : fOk ((tAll xs).getD k ([], [])) := by
  by_cases hk : k < (tAll xs).length
  · have hm : (tAll xs).getD k ([], []) ∈ tAll xs := by
      rw [List.getD_eq_getElem?_getD, List.getElem?_eq_getElem hk]
      exact List.getElem_mem hk
    rcases List.mem_append.1 (show (tAll xs).getD k ([], []) ∈ alw ++ xs from hm) with h1 | h1
    · have ha : wt alw ≤ 4096 := by decide
      exact fOk_wt ha _ h1
    · exact fOk_wt h _ h1
  · rw [List.getD_eq_getElem?_getD, List.getElem?_eq_none (by omega)]
    exact ⟨by simp, by simp⟩
theorem fOk_lit {xs : List Fld} (h : wt xs ≤ 4096) {b : List UInt8} {t : Int} {f : Fld} {U : Nat} (hV : litV xs b t = (f, U, 0)) : fOk f := by
  obtain ⟨N, U1, _, _, ⟨_, v, U2, h2, rfl, _⟩ | ⟨_, n, U2, v, U3, h2, h3, rfl, _⟩⟩ := litV_ok hV
  · have h4 := (readT_used (l := b.drop U1) (by rw [h2])).2.2
    rw [h2] at h4
    simp only at h4
    exact ⟨(fOk_tAll h (N - 1)).1, by simp only; omega⟩
  · have h4 := (readT_used (l := b.drop U1) (by rw [h2])).2.2
    have h5 := (readT_used (l := b.drop (U1 + U2)) (by rw [h3])).2.2
    rw [h2] at h4
    rw [h3] at h5
    simp only at h4 h5
    exact ⟨by simp only; omega, by simp only; omega⟩
theorem fOk_more {l : List Fld} {f : Fld} (h : tooMuch l = false) (hf : fOk f) : (∀ x ∈ l ++ [f], fOk x) ∧ (l ++ [f]).length ≤ 41 := by
  obtain ⟨h1, h2⟩ := fOk_little h
  refine ⟨fun x hx => ?_, by rw [List.length_append]; simp; omega⟩
  rcases List.mem_append.1 hx with h3 | h3
  · exact h1 x h3
  · rw [List.mem_singleton.1 h3]
    exact hf
theorem heard_go2 {most : Nat} {xs : List Fld} {mx : Nat} {l : List Fld} {b : List UInt8} {E : Nat} (hb : b ≠ []) (h : (heard most xs mx l b).e = E) (h0 : (heardS most xs mx l b).e = 0) : (heardS most xs mx l b).e = 0 ∧ (heard most (heardS most xs mx l b).xs (heardS most xs mx l b).mx (heardS most xs mx l b).l (b.drop (heardS most xs mx l b).n)).e = E ∧ 1 ≤ (heardS most xs mx l b).n ∧ (heardS most xs mx l b).n ≤ b.length := by
  have hu := heardS_used h0
  rw [heard_next hb h0] at h
  exact ⟨h0, h, hu.1, hu.2⟩

/-- What decode leaves of a coder behind a fault. -/
def InBad (w w' : World) (C h : Nat) (A : Option Addr) (bd : Bool) : Prop := (∃ g p mo Sv, Blk w' C 134 #[g, p, mo, Sv, .bool bd]) ∧ Keep (iOwn C h A) w w'
theorem InBad.drewN {w w' : World} {C h : Nat} {A : Option Addr} {bd : Bool} (H : InBad w w' C h A bd) (n : Nat) : InBad w (w'.drewN n) C h A bd := by
  obtain ⟨⟨g, p, mo, Sv, hb⟩, hk⟩ := H
  have hb0 : Below w'.heap.size w' (w'.drewN n) := ⟨rfl, rfl, rfl, Nat.le_refl _, fun _ _ => rfl⟩
  exact ⟨⟨g, p, mo, Sv, hb.below hb0 hb.lt⟩, hk.trans (Keep.of_below (S := fun _ => False) hb0) fun i hi => hi.elim⟩
/-- Behind a fault: the reader; the coder. -/
structure DE (w wr : World) (C h : Nat) (A : Option Addr) (R E : Nat) : Prop where
  re : RE wr R E
  ib : InBad w wr C h A false
section
variable {w wr w1 : World} {C h R B my most c' F E : Nat} {A A' : Option Addr} {b b' : List UInt8} {ys acc : List Fld} {v x y : Value}
theorem DAt.inBad (d : DAt w wr C h A A' c' R B b ys my most v acc) : InBad w wr C h A false := by
  obtain ⟨⟨g, Sv, hb⟩, _⟩ := d.ci
  exact ⟨⟨_, _, _, _, hb⟩, d.kp⟩
theorem DAt.fault (d : DAt w wr C h A A' c' R B b ys my most v acc) (hr : RE w1 R E) (hk : Keep (fun k => k = R) wr w1) : DE w w1 C h A R E := by
  obtain ⟨⟨g, Sv, hb⟩, _⟩ := d.ci
  exact ⟨hr, ⟨_, _, _, _, hb.keep hk fun e => d.nR (.inl e.symm)⟩, d.kp.trans hk fun i hi => .inr (by rw [hi]; exact d.rb)⟩
theorem DE.cells (d : DE w wr C h A R E) : wr.cell? ⟨R, 1, none⟩ = some (.iface 113 (.int .i64 ((E : Nat) : Int))) ∧ wr.frozen? ⟨R, 1, none⟩ = false ∧ R < wr.heap.size := by
  obtain ⟨a, n, c, h1⟩ := d.re
  exact ⟨h1.cell 1, h1.frozen 1, h1.lt⟩
theorem DAt.setErr (d : DAt w wr C h A A' c' R B b ys my most v acc) (E : Nat) : DE w (wr.setCell ⟨R, 1, none⟩ (.iface 113 (.int .i64 ((E : Nat) : Int)))) C h A R E := by
  obtain ⟨a, c, h1, -⟩ := d.rd
  have hk : Keep (fun k => k = R) wr (wr.setCell ⟨R, 1, none⟩ (.iface 113 (.int .i64 ((E : Nat) : Int)))) := (Keep.refl (fun k => k = R) wr).setCell (p := ⟨R, 1, none⟩) (.inl rfl) _
  refine d.fault ⟨a, b.length, c, ?_⟩ hk
  have := h1.set_ 1 (.iface 113 (.int .i64 ((E : Nat) : Int)))
  simpa using this
/-- The field is filled. -/
theorem DFt.faultPut (d : DFt w wr C h A A' c' R B b ys my most v acc F x y) (hr : RE w1 R E) (hk : Keep (fun k => k = R) wr w1) (x' y' : Value) : DE w ((w1.setCell ⟨F, 0, none⟩ x').setCell ⟨F, 1, none⟩ y') C h A R E ∧ w1.cell? ⟨F, 0, none⟩ = some x ∧ w1.cell? ⟨F, 1, none⟩ = some y ∧ w1.frozen? ⟨F, 0, none⟩ = false ∧ w1.frozen? ⟨F, 1, none⟩ = false ∧ F < w1.heap.size := by
  obtain ⟨h1, ⟨g, p, mo, Sv, h2⟩, h3⟩ := d.d.fault hr hk
  have hF := d.fl.keep hk d.fR
  have hkF : Keep (fun k => k = F) w1 ((w1.setCell ⟨F, 0, none⟩ x').setCell ⟨F, 1, none⟩ y') := ((Keep.refl (fun k => k = F) w1).setCell (p := ⟨F, 0, none⟩) (.inl rfl) _).setCell (p := ⟨F, 1, none⟩) (.inl rfl) _
  refine ⟨⟨h1.keep hkF (fun e => d.fR e.symm), ⟨_, _, _, _, h2.keep hkF fun e => d.aF (.inl e.symm)⟩, h3.trans hkF fun i hi => .inr (by rw [hi]; exact d.fw)⟩, hF.cell 0, hF.cell 1, hF.frozen 0, hF.frozen 1, hF.lt⟩
end

set_option maxRecDepth 100000 in
set_option maxHeartbeats 16000000 in
theorem cdec_fault {w : World} {C h : Nat} {A : Option Addr} {c : Nat} {ys : List Fld} {my most : Nat} (H : CIn w C h A c ys my most false) (hmost : most ≤ 4096) (b : List UInt8) (LA : Option Addr) (n lc : Nat) (hn : n = b.length) (hcap : b.length ≤ lc) (hm : b.length ≤ 140737488355328) (B : Nat) (hB : B < w.heap.size) (hBl : ¬ iOwn C h A B) (hr : Reads w w.heap.size 1 LA b.length (bs b)) (hLA : ∀ ad, LA = some ad → ad.block = B)
    (E : Nat) (hE : E ≠ 0) (hH : (heard most ys my [] b).e = E) :
    Calls Tryd.prog 94 #[.pointer (some ⟨C, 0, none⟩), .slice LA n lc] w fun e w' => e = .returned (.tuple #[.slice none 0 0, .iface 113 (.int .i64 ((E : Nat) : Int))]) ∧ InBad w w' C h A false := by
  subst hn
  obtain ⟨R, hR⟩ : ∃ R, w.heap.size = R := ⟨_, rfl⟩
  obtain ⟨W0, hW0⟩ : ∃ W0, w.alloc (.cells #[.slice LA b.length lc, .nilIface] 154) = W0 := ⟨_, rfl⟩
  have hD0 : DAt w W0 C h A A c R B b ys my most (.slice none 0 0) [] := by
    have hb0 : Below w.heap.size w W0 := by rw [← hW0]; exact (Below.refl _ _).alloc (Nat.le_refl _) _
    refine ⟨⟨LA, lc, by rw [← hW0, ← hR]; exact Blk.new w _ _, hcap, (hr.below hb0).more hb0.size, hLA⟩, H.below hb0, fun k hk => .inl hk, fun e => ?_, fun k hk => by simp [Value.ownBlock] at hk, World.ownsRow_nil _ _ _ _, Keep.of_below hb0, by omega, hB, hBl⟩
    have := H.lt R e
    omega
  have HR := Lib.hid hR
  have HW0 := Lib.hid hW0
  have HD0 := Lib.hid hD0
  have HH := Lib.hid hH
  have HEE := Lib.hid hE
  obtain ⟨i0, hi, hz0, hz1, hz2⟩ := info_parts fld_info
  have HI := Lib.hid hi
  have HZ0 := Lib.hid hz0
  have HZ1 := Lib.hid hz1
  have HZ2 := Lib.hid hz2
  clear hR hW0 hD0 hH hE H hr hBl hi hz0 hz1 hz2 hLA
  go_enter Tryd.func94, Tryd.ntmps94
  go_wp2_with fail
  rw [HW0.out, HR.out]
  go_loopg [4] b.length (fun n v wr => ∃ bk yk mk acc A' c', Hid (bk.length = n) ∧ bk.length ≤ 140737488355328 ∧ Hid (DAt w wr C h A A' c' R B bk yk mk most v acc) ∧ Hid ((heard most yk mk acc bk).e = E) ∧ Hid (tooMuch acc = false))
  case atStart => exact ⟨b, ys, my, [], A, c, rfl, hm, HD0.out, HH.out, rfl⟩
  case round =>
    obtain ⟨bk, yk, mk, acc, A', c', HLEN, hbm, HD, HHk, HTA⟩ := hrel
    obtain ⟨⟨ra, rc, r0, rbF⟩, r1, f1, rl, d1, d2, dl⟩ := HD.out.cells
    rcases Nat.eq_zero_or_pos bk.length with h0 | h0
    · have hb0 : bk = [] := List.eq_nil_of_length_eq_zero h0
      subst hb0
      have hh := HHk.out
      rw [heard_nil] at hh
      exact absurd hh.symm HEE.out
    · obtain ⟨bb, off, rfl, rb⟩ := rbF h0
      clear rbF
      have hne : bk ≠ [] := fun e => by rw [e] at h0; simp at h0
      by_cases hS0 : (heardS most yk mk acc bk).e = 0
      · have HGO := Lib.hid (heard_go2 hne HHk.out hS0)
        clear hS0
        have h0i : (0 : Int) < ((bk.length : Nat) : Int) := by omega
        have hF := HD.out.fld (.string ⟨#[]⟩) (.string ⟨#[]⟩)
        obtain ⟨F, hFF⟩ : ∃ F, wr.heap.size = F := ⟨_, rfl⟩
        obtain ⟨W1, hW1⟩ : ∃ W1, wr.alloc (.cells #[.string ⟨#[]⟩, .string ⟨#[]⟩] 86) = W1 := ⟨_, rfl⟩
        rw [hFF, hW1] at hF
        have HF := Lib.hid hF
        have HW1 := Lib.hid hW1
        have HFF := Lib.hid hFF
        clear hF hW1 hFF
        go_upto_region 4 with fail
        rw [HW1.out, HFF.out]
        clear r0 r1 f1 rl rb d1 d2 dl HW1 HFF
        obtain ⟨⟨ra, rc', r0, rbF⟩, r1, f1, rl, d1, d2, dl⟩ := HF.out.d.cells
        obtain ⟨bb', off', rfl, rb⟩ := rbF h0
        clear rbF
        obtain ⟨y0, hy0⟩ : ∃ y0, (bk.headD 0).toNat = y0 := ⟨_, rfl⟩
        rw [hy0] at rb
        have HY0 := Lib.hid hy0
        clear hy0
        go_upto_region 6 with fail
        by_cases h128 : 128 ≤ y0
        · have i1 : (128 : Int) ≤ ((y0 : Nat) : Int) := by omega
          have i2 := decide_eq_true i1
          have i3 := decide_eq_true h128
          go_upto_region 7 with fail
          obtain ⟨k, U, hg, hk, htm, hS⟩ := heardS_hi HGO.out.1 (by rw [HY0.out]; exact h128)
          have hgo2 := HGO.out
          rw [hS] at hgo2
          obtain ⟨-, hnx, hU1, hU2⟩ := hgo2
          simp only at hnx hU1 hU2
          obtain ⟨f, hf⟩ : ∃ f, (tAll yk).getD k ([], []) = f := ⟨_, rfl⟩
          rw [hf] at htm hnx
          have HFk := Lib.hid hf
          have HG := Lib.hid hg
          have HNX := Lib.hid hnx
          have HTM := Lib.hid htm
          clear hS hg hf hnx htm r0 rb d2 i1 i2 i3 h0i h0
          go_wp2_with fail
          refine (rnum_ok HF.out.d.rd HF.out.d.bR hbm 7 (k + 1) U HG.out).mono ?_
          rintro e w2 ⟨rfl, hr2, hk2⟩
          have h2 := HF.out.read hr2 hk2
          clear r1 f1 rl d1 dl
          obtain ⟨-, r1, f1, rl, d1, d2, dl⟩ := h2.d.cells
          have H2 := Lib.hid h2
          clear h2 hr2 hk2
          go_wp2_with fail
          refine (get_yes H2.out.d.ci.tab k hk f HFk.out).mono ?_
          rintro e w3 ⟨rfl, hb3⟩
          have h3 := H2.out.next hb3
          clear r1 f1 rl d1 d2 dl
          obtain ⟨-, r1, f1, rl, d1, d2, dl⟩ := h3.d.cells
          obtain ⟨c0, c1, g0, g1, cF⟩ := h3.cells
          have rne := h3.fR
          have H4 := Lib.hid (h3.put (.string ⟨f.1.toArray⟩) (.string ⟨f.2.toArray⟩)).noErr
          clear h3 hb3
          go_upto_region 23 with fail
          obtain ⟨W4, hW4⟩ : ∃ W4, ((w3.setCell ⟨F, 0, none⟩ (.string ⟨f.1.toArray⟩)).setCell ⟨F, 1, none⟩ (.string ⟨f.2.toArray⟩)).setCell ⟨R, 1, none⟩ .nilIface = W4 := ⟨_, rfl⟩
          rw [hW4]
          have H4 := Lib.hid (show DFt w W4 C h A A' c' R B (bk.drop U) yk mk most u4 acc F (.string ⟨f.1.toArray⟩) (.string ⟨f.2.toArray⟩) by rw [← hW4]; exact H4.out)
          clear hW4 r1 f1 rl d1 d2 dl c0 c1 g0 g1 cF rne
          have hnx := HNX.out
          have htm := HTM.out
          obtain ⟨-, r1, f1, rl, d1, d2, dl⟩ := H4.out.d.cells
          obtain ⟨c0, c1, -, -, cF⟩ := H4.out.cells
          obtain ⟨hfo, hl40⟩ := fOk_little htm
          have hla : acc.length + 1 ≤ 40 := by rw [List.length_append] at hl40; exact hl40
          have hTA : Reads (W4.alloc (.cells #[.string ⟨f.1.toArray⟩, .string ⟨f.2.toArray⟩] 86)) (W4.heap.size + 1) 2 (some ⟨W4.heap.size, 0, none⟩) 1 [.string ⟨f.1.toArray⟩, .string ⟨f.2.toArray⟩] := fld_tmp W4 f
          have hD5 := H4.out.d.next ((Below.refl W4.heap.size W4).alloc (Nat.le_refl _) (.cells #[.string ⟨f.1.toArray⟩, .string ⟨f.2.toArray⟩] 86))
          have HTA := Lib.hid hTA
          have HD5 := Lib.hid hD5
          have HFO := Lib.hid hfo
          have H40 := Lib.hid hl40
          have HBA := Lib.hid (show w.heap.size ≤ (W4.alloc (.cells #[.string ⟨f.1.toArray⟩, .string ⟨f.2.toArray⟩] 86)).heap.size from hD5.kp.size)
          clear hTA hD5 hfo hl40
          go_wp2_with (at_builtin; refine wpList_append_any _ rfl _ _ 76 rfl w.heap.size 86 i0 (.agg #[.string ⟨#[]⟩, .string ⟨#[]⟩]) 2 32 Tryd.underlying76 HI.out HZ0.out HZ1.out HZ2.out rfl (by decide) _ _ _ rfl HD5.out.row (W4.heap.size + 1) (some ⟨W4.heap.size, 0, none⟩) 1 1 [.string ⟨f.1.toArray⟩, .string ⟨f.2.toArray⟩] rfl HTA.out (fld_one f) (by unfold maxLen; omega) (by omega) HBA.out ?_; intro v2 w5 hown2 hg2 hv2; have HD6 := Lib.hid (HD5.out.push f hown2 hg2 hv2); obtain ⟨A2, c2, rfl⟩ := own_slice hown2; clear hown2 hg2 hv2)
          refine (full_any (acc ++ [f]) HFO.out (by have := H40.out; omega) A2 _ c2 (by simp) w5 (by have h := HD6.out.row; rw [show acc.length + 1 = (acc ++ [f]).length by simp] at h; exact reads_own h)).mono ?_
          rintro e w6 ⟨rfl, hb6⟩
          have HD7 := Lib.hid (HD6.out.next hb6)
          clear hb6
          rw [htm]
          go_wp2_with fail
          go_roundg (bk.drop U).length
          case measure => rw [List.length_drop]; have := HLEN.out; omega
          case rel => exact ⟨bk.drop U, _, _, acc ++ [f], _, _, rfl, by rw [List.length_drop]; omega, HD7.out, hnx, htm⟩
        · have i1 : ¬ (128 : Int) ≤ ((y0 : Nat) : Int) := by omega
          have i2 := decide_eq_false i1
          have i3 := decide_eq_false h128
          by_cases h64 : 64 ≤ y0
          · have i4 : (64 : Int) ≤ ((y0 : Nat) : Int) := by omega
            have i5 := decide_eq_true i4
            have i6 := decide_eq_true h64
            obtain ⟨f, U, hg, htm, hS⟩ := heardS_mid HGO.out.1 (by rw [HY0.out]; exact h128) (by rw [HY0.out]; exact h64)
            have hgo2 := HGO.out
            rw [hS] at hgo2
            obtain ⟨-, hnx, hU1, hU2⟩ := hgo2
            simp only at hnx hU1 hU2
            have HG := Lib.hid hg
            have HNX := Lib.hid hnx
            have HTM := Lib.hid htm
            have hfk := (fOk_little htm).1 f (by simp)
            clear hS hg hnx htm r0 rb d2 h0i h0
            go_wp2_with fail
            refine (lit_ok HF.out.d.ci HF.out.d.rd (Nat.lt_of_lt_of_le HF.out.d.bw HF.out.d.kp.size) HF.out.d.bR HF.out.d.nR hbm 6 f U HG.out).mono ?_
            rintro e w2 ⟨rfl, hr2, hk2⟩
            have h2 := HF.out.read hr2 hk2
            clear r1 f1 rl d1 dl
            obtain ⟨-, r1, f1, rl, d1, d2, dl⟩ := h2.d.cells
            obtain ⟨c0, c1, g0, g1, cF⟩ := h2.cells
            have H4 := Lib.hid (h2.put (.string ⟨f.1.toArray⟩) (.string ⟨f.2.toArray⟩))
            clear h2 hr2 hk2 i1 i2 i3 i4 i5 i6
            go_upto_region 12 with fail
            obtain ⟨W3, hW3⟩ : ∃ W3, (w2.setCell ⟨F, 0, none⟩ (.string ⟨f.1.toArray⟩)).setCell ⟨F, 1, none⟩ (.string ⟨f.2.toArray⟩) = W3 := ⟨_, rfl⟩
            rw [hW3]
            have H3 := Lib.hid (show DFt w W3 C h A A' c' R B (bk.drop U) yk mk most u4 acc F (.string ⟨f.1.toArray⟩) (.string ⟨f.2.toArray⟩) by rw [← hW3]; exact H4.out)
            clear hW3 r1 f1 rl d1 d2 dl c0 c1 g0 g1 cF H4
            have r1 := H3.out.d.cells.2.1
            have d1 := H3.out.d.cells.2.2.2.2.1
            have c0 := H3.out.cells.1
            have c1 := H3.out.cells.2.1
            go_upto_region 13 with fail
            go_still_tail 5, (by kernel_rfl)
            have H3D := Lib.hid (H3.out.next ((Below.refl _ W3).drew))
            change wpList _ _ _ _ _ W3.drew
            generalize W3.drew = w3 at *
            clear r1 d1 c0 c1
            go_wp2_with fail
            refine (add_any H3D.out.d.ci.tab f hfk).mono ?_
            rintro e W4 ⟨rfl, hadd⟩
            obtain ⟨A2', c2', h4⟩ := H3D.out.add f hadd
            have H4 := Lib.hid h4
            clear h4 hadd
            go_upto_region 23 with fail
            have hnx := HNX.out
            have htm := HTM.out
            obtain ⟨-, r1, f1, rl, d1, d2, dl⟩ := H4.out.d.cells
            obtain ⟨c0, c1, -, -, cF⟩ := H4.out.cells
            obtain ⟨hfo, hl40⟩ := fOk_little htm
            have hla : acc.length + 1 ≤ 40 := by rw [List.length_append] at hl40; exact hl40
            have hTA : Reads (W4.alloc (.cells #[.string ⟨f.1.toArray⟩, .string ⟨f.2.toArray⟩] 86)) (W4.heap.size + 1) 2 (some ⟨W4.heap.size, 0, none⟩) 1 [.string ⟨f.1.toArray⟩, .string ⟨f.2.toArray⟩] := fld_tmp W4 f
            have hD5 := H4.out.d.next ((Below.refl W4.heap.size W4).alloc (Nat.le_refl _) (.cells #[.string ⟨f.1.toArray⟩, .string ⟨f.2.toArray⟩] 86))
            have HTA := Lib.hid hTA
            have HD5 := Lib.hid hD5
            have HFO := Lib.hid hfo
            have H40 := Lib.hid hl40
            have HBA := Lib.hid (show w.heap.size ≤ (W4.alloc (.cells #[.string ⟨f.1.toArray⟩, .string ⟨f.2.toArray⟩] 86)).heap.size from hD5.kp.size)
            clear hTA hD5 hfo hl40
            go_wp2_with (at_builtin; refine wpList_append_any _ rfl _ _ 76 rfl w.heap.size 86 i0 (.agg #[.string ⟨#[]⟩, .string ⟨#[]⟩]) 2 32 Tryd.underlying76 HI.out HZ0.out HZ1.out HZ2.out rfl (by decide) _ _ _ rfl HD5.out.row (W4.heap.size + 1) (some ⟨W4.heap.size, 0, none⟩) 1 1 [.string ⟨f.1.toArray⟩, .string ⟨f.2.toArray⟩] rfl HTA.out (fld_one f) (by unfold maxLen; omega) (by omega) HBA.out ?_; intro v2 w5 hown2 hg2 hv2; have HD6 := Lib.hid (HD5.out.push f hown2 hg2 hv2); obtain ⟨A2, c2, rfl⟩ := own_slice hown2; clear hown2 hg2 hv2)
            refine (full_any (acc ++ [f]) HFO.out (by have := H40.out; omega) A2 _ c2 (by simp) w5 (by have h := HD6.out.row; rw [show acc.length + 1 = (acc ++ [f]).length by simp] at h; exact reads_own h)).mono ?_
            rintro e w6 ⟨rfl, hb6⟩
            have HD7 := Lib.hid (HD6.out.next hb6)
            clear hb6
            rw [htm]
            go_wp2_with fail
            go_roundg (bk.drop U).length
            case measure => rw [List.length_drop]; have := HLEN.out; omega
            case rel => exact ⟨bk.drop U, _, _, acc ++ [f], _, _, rfl, by rw [List.length_drop]; omega, HD7.out, hnx, htm⟩

          · have i4 : ¬ (64 : Int) ≤ ((y0 : Nat) : Int) := by omega
            have i5 := decide_eq_false i4
            have i6 := decide_eq_false h64
            by_cases h32 : 32 ≤ y0
            · have i7 : (32 : Int) ≤ ((y0 : Nat) : Int) := by omega
              have i8 := decide_eq_true i7
              have i9 := decide_eq_true h32
              obtain ⟨N, U, hg, hNm, hl0, hS⟩ := heardS_size HGO.out.1 (by rw [HY0.out]; exact h128) (by rw [HY0.out]; exact h64) (by rw [HY0.out]; exact h32)
              subst hl0
              have hgo2 := HGO.out
              rw [hS] at hgo2
              obtain ⟨-, hnx, hU1, hU2⟩ := hgo2
              simp only at hnx hU1 hU2
              have HG := Lib.hid hg
              have HNX := Lib.hid hnx
              obtain ⟨VA, vc, hv⟩ := own_slice HF.out.d.row
              have hn1 : ¬ ((most : Nat) : Int) < ((N : Nat) : Int) := by omega
              have hn2 := decide_eq_false hn1
              have hn3 : decide (most < N) = false := by simp; omega
              clear hS hg hnx r0 rb d2 h0i h0
              subst hv
              go_wp2_with fail
              refine (rnum_ok HF.out.d.rd HF.out.d.bR hbm 5 N U HG.out).mono ?_
              rintro e w2 ⟨rfl, hr2, hk2⟩
              have h2 := HF.out.read hr2 hk2
              clear r1 f1 rl d1 dl
              obtain ⟨-, r1, f1, rl, d1, d2, dl⟩ := h2.d.cells
              have H2 := Lib.hid h2
              clear h2 hr2 hk2
              go_wp2_with fail
              refine (resize_yes H2.out.d.ci.tab N (by omega)).mono ?_
              rintro e w3 ⟨rfl, ht3, hk3⟩
              have h3 := H2.out.d.size ht3 hk3
              have H3 := Lib.hid h3.noErr
              clear r1 f1 rl d1 d2 dl hn1 hn2 hn3
              obtain ⟨-, r1, f1, rl, d1, d2, dl⟩ := h3.cells
              clear h3 ht3 hk3
              go_wp2_with fail
              go_roundg (bk.drop U).length
              case measure => rw [List.length_drop]; have := HLEN.out; omega
              case rel => exact ⟨bk.drop U, _, _, [], _, _, rfl, by rw [List.length_drop]; omega, H3.out, HNX.out, rfl⟩
            · have i7 : ¬ (32 : Int) ≤ ((y0 : Nat) : Int) := by omega
              have i8 := decide_eq_false i7
              have i9 := decide_eq_false h32
              obtain ⟨f, U, hg, htm, hS⟩ := heardS_low HGO.out.1 (by rw [HY0.out]; exact h128) (by rw [HY0.out]; exact h64) (by rw [HY0.out]; exact h32)
              have hgo2 := HGO.out
              rw [hS] at hgo2
              obtain ⟨-, hnx, hU1, hU2⟩ := hgo2
              simp only at hnx hU1 hU2
              have HG := Lib.hid hg
              have HNX := Lib.hid hnx
              have HTM := Lib.hid htm
              have hfk := (fOk_little htm).1 f (by simp)
              clear hS hg hnx htm r0 rb d2 h0i h0
              go_wp2_with fail
              refine (lit_ok HF.out.d.ci HF.out.d.rd (Nat.lt_of_lt_of_le HF.out.d.bw HF.out.d.kp.size) HF.out.d.bR HF.out.d.nR hbm 4 f U HG.out).mono ?_
              rintro e w2 ⟨rfl, hr2, hk2⟩
              have h2 := HF.out.read hr2 hk2
              clear r1 f1 rl d1 dl
              obtain ⟨-, r1, f1, rl, d1, d2, dl⟩ := h2.d.cells
              obtain ⟨c0, c1, g0, g1, cF⟩ := h2.cells
              have H4 := Lib.hid (h2.put (.string ⟨f.1.toArray⟩) (.string ⟨f.2.toArray⟩))
              clear h2 hr2 hk2 i1 i2 i3 i4 i5 i6 i7 i8 i9
              go_upto_region 23 with fail
              obtain ⟨W4, hW4⟩ : ∃ W4, (w2.setCell ⟨F, 0, none⟩ (.string ⟨f.1.toArray⟩)).setCell ⟨F, 1, none⟩ (.string ⟨f.2.toArray⟩) = W4 := ⟨_, rfl⟩
              rw [hW4]
              have H4 := Lib.hid (show DFt w W4 C h A A' c' R B (bk.drop U) yk mk most u4 acc F (.string ⟨f.1.toArray⟩) (.string ⟨f.2.toArray⟩) by rw [← hW4]; exact H4.out)
              clear hW4 r1 f1 rl d1 d2 dl c0 c1 g0 g1 cF
              have hnx := HNX.out
              have htm := HTM.out
              obtain ⟨-, r1, f1, rl, d1, d2, dl⟩ := H4.out.d.cells
              obtain ⟨c0, c1, -, -, cF⟩ := H4.out.cells
              obtain ⟨hfo, hl40⟩ := fOk_little htm
              have hla : acc.length + 1 ≤ 40 := by rw [List.length_append] at hl40; exact hl40
              have hTA : Reads (W4.alloc (.cells #[.string ⟨f.1.toArray⟩, .string ⟨f.2.toArray⟩] 86)) (W4.heap.size + 1) 2 (some ⟨W4.heap.size, 0, none⟩) 1 [.string ⟨f.1.toArray⟩, .string ⟨f.2.toArray⟩] := fld_tmp W4 f
              have hD5 := H4.out.d.next ((Below.refl W4.heap.size W4).alloc (Nat.le_refl _) (.cells #[.string ⟨f.1.toArray⟩, .string ⟨f.2.toArray⟩] 86))
              have HTA := Lib.hid hTA
              have HD5 := Lib.hid hD5
              have HFO := Lib.hid hfo
              have H40 := Lib.hid hl40
              have HBA := Lib.hid (show w.heap.size ≤ (W4.alloc (.cells #[.string ⟨f.1.toArray⟩, .string ⟨f.2.toArray⟩] 86)).heap.size from hD5.kp.size)
              clear hTA hD5 hfo hl40
              go_wp2_with (at_builtin; refine wpList_append_any _ rfl _ _ 76 rfl w.heap.size 86 i0 (.agg #[.string ⟨#[]⟩, .string ⟨#[]⟩]) 2 32 Tryd.underlying76 HI.out HZ0.out HZ1.out HZ2.out rfl (by decide) _ _ _ rfl HD5.out.row (W4.heap.size + 1) (some ⟨W4.heap.size, 0, none⟩) 1 1 [.string ⟨f.1.toArray⟩, .string ⟨f.2.toArray⟩] rfl HTA.out (fld_one f) (by unfold maxLen; omega) (by omega) HBA.out ?_; intro v2 w5 hown2 hg2 hv2; have HD6 := Lib.hid (HD5.out.push f hown2 hg2 hv2); obtain ⟨A2, c2, rfl⟩ := own_slice hown2; clear hown2 hg2 hv2)
              refine (full_any (acc ++ [f]) HFO.out (by have := H40.out; omega) A2 _ c2 (by simp) w5 (by have h := HD6.out.row; rw [show acc.length + 1 = (acc ++ [f]).length by simp] at h; exact reads_own h)).mono ?_
              rintro e w6 ⟨rfl, hb6⟩
              have HD7 := Lib.hid (HD6.out.next hb6)
              clear hb6
              rw [htm]
              go_wp2_with fail
              go_roundg (bk.drop U).length
              case measure => rw [List.length_drop]; have := HLEN.out; omega
              case rel => exact ⟨bk.drop U, _, _, acc ++ [f], _, _, rfl, by rw [List.length_drop]; omega, HD7.out, hnx, htm⟩
      · have HSE := Lib.hid (show (heardS most yk mk acc bk).e = E by rw [← heard_fault hne hS0]; exact HHk.out)
        clear hS0
        have h0i : (0 : Int) < ((bk.length : Nat) : Int) := by omega
        have hF := HD.out.fld (.string ⟨#[]⟩) (.string ⟨#[]⟩)
        obtain ⟨F, hFF⟩ : ∃ F, wr.heap.size = F := ⟨_, rfl⟩
        obtain ⟨W1, hW1⟩ : ∃ W1, wr.alloc (.cells #[.string ⟨#[]⟩, .string ⟨#[]⟩] 86) = W1 := ⟨_, rfl⟩
        rw [hFF, hW1] at hF
        have HF := Lib.hid hF
        have HW1 := Lib.hid hW1
        have HFF := Lib.hid hFF
        clear hF hW1 hFF
        go_upto_region 4 with fail
        rw [HW1.out, HFF.out]
        clear r0 r1 f1 rl rb d1 d2 dl HW1 HFF
        obtain ⟨⟨ra, rc', r0, rbF⟩, r1, f1, rl, d1, d2, dl⟩ := HF.out.d.cells
        obtain ⟨bb', off', rfl, rb⟩ := rbF h0
        clear rbF
        obtain ⟨y0, hy0⟩ : ∃ y0, (bk.headD 0).toNat = y0 := ⟨_, rfl⟩
        rw [hy0] at rb
        have HY0 := Lib.hid hy0
        clear hy0
        go_upto_region 6 with fail
        by_cases h128 : 128 ≤ y0
        · have i1 : (128 : Int) ≤ ((y0 : Nat) : Int) := by omega
          have i2 := decide_eq_true i1
          have i3 := decide_eq_true h128
          go_upto_region 7 with fail
          rcases heardS_hi_bad HSE.out HEE.out (by rw [HY0.out]; exact h128) with hg | ⟨N, U, hg, hN, rfl⟩ | ⟨k, U, hg, hk, htm, rfl⟩
          · have HG := Lib.hid hg
            clear hg r0 rb d2 i1 i2 i3 h0i h0
            go_wp2_with fail
            refine (rnum_fault HF.out.d.rd hbm 7 E HG.out HEE.out).mono ?_
            rintro e w2 ⟨rfl, hr2, hk2⟩
            have H4 := Lib.hid (HF.out.d.fault hr2 hk2)
            clear r1 f1 rl d1 dl hr2 hk2
            obtain ⟨r1, f1, rl⟩ := H4.out.cells
            go_upto_region 24 with fail
            go_quiet (fail)
            have HIB := Lib.hid (H4.out.ib.drewN nq)
            go_wp2
            go_ret2
            exact ⟨rfl, HIB.out⟩
          · have HG := Lib.hid hg
            clear hg r0 rb d2 i1 i2 i3 h0i h0
            go_wp2_with fail
            refine (rnum_ok HF.out.d.rd HF.out.d.bR hbm 7 N U HG.out).mono ?_
            rintro e w2 ⟨rfl, hr2, hk2⟩
            have h2 := HF.out.read hr2 hk2
            clear r1 f1 rl d1 dl
            obtain ⟨-, r1, f1, rl, d1, d2, dl⟩ := h2.d.cells
            have H2 := Lib.hid h2
            clear h2 hr2 hk2
            go_wp2_with fail
            refine (get_no H2.out.d.ci.tab ((N : Nat) : Int) (by omega)).mono ?_
            rintro e w3 ⟨rfl, hb3⟩
            have h3 := H2.out.next hb3
            clear r1 f1 rl d1 d2 dl
            obtain ⟨-, r1, f1, rl, d1, d2, dl⟩ := h3.d.cells
            obtain ⟨c0, c1, g0, g1, cF⟩ := h3.cells
            have rne := h3.fR
            have H4 := Lib.hid ((h3.put (.string ⟨#[]⟩) (.string ⟨#[]⟩)).d.setErr 5)
            clear h3 hb3
            go_upto_region 23 with fail
            obtain ⟨W4, hW4⟩ : ∃ W4, ((w3.setCell ⟨F, 0, none⟩ (.string ⟨#[]⟩)).setCell ⟨F, 1, none⟩ (.string ⟨#[]⟩)).setCell ⟨R, 1, none⟩ (.iface 113 (.int .i64 5)) = W4 := ⟨_, rfl⟩
            rw [hW4]
            have H4 := Lib.hid (show DE w W4 C h A R 5 by rw [← hW4]; exact H4.out)
            clear hW4 r1 f1 rl d1 d2 dl c0 c1 g0 g1 cF rne
            obtain ⟨r1, f1, rl⟩ := H4.out.cells
            go_upto_region 24 with fail
            go_quiet (fail)
            have HIB := Lib.hid (H4.out.ib.drewN nq)
            go_wp2
            go_ret2
            exact ⟨rfl, HIB.out⟩
          · obtain ⟨f, hf⟩ : ∃ f, (tAll yk).getD k ([], []) = f := ⟨_, rfl⟩
            have hfok : fOk f := by rw [← hf]; exact fOk_tAll HF.out.d.ci.tab.wt k
            rw [hf] at htm
            have hU2 : U ≤ bk.length := by have := (getV_used (l := bk) (t := 7) (by rw [hg])).2.1; rw [hg] at this; exact this
            have HFk := Lib.hid hf
            have HG := Lib.hid hg
            have HTM := Lib.hid htm
            clear hg hf htm r0 rb d2 i1 i2 i3 h0i h0
            go_wp2_with fail
            refine (rnum_ok HF.out.d.rd HF.out.d.bR hbm 7 (k + 1) U HG.out).mono ?_
            rintro e w2 ⟨rfl, hr2, hk2⟩
            have h2 := HF.out.read hr2 hk2
            clear r1 f1 rl d1 dl
            obtain ⟨-, r1, f1, rl, d1, d2, dl⟩ := h2.d.cells
            have H2 := Lib.hid h2
            clear h2 hr2 hk2
            go_wp2_with fail
            refine (get_yes H2.out.d.ci.tab k hk f HFk.out).mono ?_
            rintro e w3 ⟨rfl, hb3⟩
            have h3 := H2.out.next hb3
            clear r1 f1 rl d1 d2 dl
            obtain ⟨-, r1, f1, rl, d1, d2, dl⟩ := h3.d.cells
            obtain ⟨c0, c1, g0, g1, cF⟩ := h3.cells
            have rne := h3.fR
            have H4 := Lib.hid (h3.put (.string ⟨f.1.toArray⟩) (.string ⟨f.2.toArray⟩)).noErr
            clear h3 hb3
            go_upto_region 23 with fail
            obtain ⟨W4, hW4⟩ : ∃ W4, ((w3.setCell ⟨F, 0, none⟩ (.string ⟨f.1.toArray⟩)).setCell ⟨F, 1, none⟩ (.string ⟨f.2.toArray⟩)).setCell ⟨R, 1, none⟩ .nilIface = W4 := ⟨_, rfl⟩
            rw [hW4]
            have H4 := Lib.hid (show DFt w W4 C h A A' c' R B (bk.drop U) yk mk most u4 acc F (.string ⟨f.1.toArray⟩) (.string ⟨f.2.toArray⟩) by rw [← hW4]; exact H4.out)
            clear hW4 r1 f1 rl d1 d2 dl c0 c1 g0 g1 cF rne
            have htm := HTM.out
            obtain ⟨-, r1, f1, rl, d1, d2, dl⟩ := H4.out.d.cells
            obtain ⟨c0, c1, -, -, cF⟩ := H4.out.cells
            obtain ⟨hfo, hl40⟩ := fOk_more HTA.out hfok
            have hla : acc.length + 1 ≤ 41 := by rw [List.length_append] at hl40; exact hl40
            have hTA : Reads (W4.alloc (.cells #[.string ⟨f.1.toArray⟩, .string ⟨f.2.toArray⟩] 86)) (W4.heap.size + 1) 2 (some ⟨W4.heap.size, 0, none⟩) 1 [.string ⟨f.1.toArray⟩, .string ⟨f.2.toArray⟩] := fld_tmp W4 f
            have hD5 := H4.out.d.next ((Below.refl W4.heap.size W4).alloc (Nat.le_refl _) (.cells #[.string ⟨f.1.toArray⟩, .string ⟨f.2.toArray⟩] 86))
            have HTA := Lib.hid hTA
            have HD5 := Lib.hid hD5
            have HFO := Lib.hid hfo
            have H40 := Lib.hid hl40
            have HBA := Lib.hid (show w.heap.size ≤ (W4.alloc (.cells #[.string ⟨f.1.toArray⟩, .string ⟨f.2.toArray⟩] 86)).heap.size from hD5.kp.size)
            clear hTA hD5 hfo hl40
            go_wp2_with (at_builtin; refine wpList_append_any _ rfl _ _ 76 rfl w.heap.size 86 i0 (.agg #[.string ⟨#[]⟩, .string ⟨#[]⟩]) 2 32 Tryd.underlying76 HI.out HZ0.out HZ1.out HZ2.out rfl (by decide) _ _ _ rfl HD5.out.row (W4.heap.size + 1) (some ⟨W4.heap.size, 0, none⟩) 1 1 [.string ⟨f.1.toArray⟩, .string ⟨f.2.toArray⟩] rfl HTA.out (fld_one f) (by unfold maxLen; omega) (by omega) HBA.out ?_; intro v2 w5 hown2 hg2 hv2; have HD6 := Lib.hid (HD5.out.push f hown2 hg2 hv2); obtain ⟨A2, c2, rfl⟩ := own_slice hown2; clear hown2 hg2 hv2)
            refine (full_any (acc ++ [f]) HFO.out (by have := H40.out; omega) A2 _ c2 (by simp) w5 (by have h := HD6.out.row; rw [show acc.length + 1 = (acc ++ [f]).length by simp] at h; exact reads_own h)).mono ?_
            rintro e w6 ⟨rfl, hb6⟩
            have HD7 := Lib.hid (HD6.out.next hb6)
            clear hb6
            rw [htm]
            have HIB := Lib.hid HD7.out.inBad
            go_wp2_with fail
            go_ret2
            exact ⟨rfl, HIB.out⟩
        · have i1 : ¬ (128 : Int) ≤ ((y0 : Nat) : Int) := by omega
          have i2 := decide_eq_false i1
          have i3 := decide_eq_false h128
          by_cases h64 : 64 ≤ y0
          · have i4 : (64 : Int) ≤ ((y0 : Nat) : Int) := by omega
            have i5 := decide_eq_true i4
            have i6 := decide_eq_true h64
            rcases heardS_mid_bad HSE.out HEE.out (by rw [HY0.out]; exact h128) (by rw [HY0.out]; exact h64) with ⟨f, U, hg⟩ | ⟨f, U, hg, htm, rfl⟩
            · have HG := Lib.hid hg
              clear hg r0 rb d2 h0i h0
              go_wp2_with fail
              refine (lit_fault HF.out.d.ci HF.out.d.rd (Nat.lt_of_lt_of_le HF.out.d.bw HF.out.d.kp.size) HF.out.d.bR HF.out.d.nR hbm 6 f U E HG.out HEE.out).mono ?_
              rintro e w2 ⟨⟨s1, s2, rfl⟩, hr2, hk2⟩
              obtain ⟨h4, c0, c1, g0, g1, cF⟩ := HF.out.faultPut hr2 hk2 (.string s1) (.string s2)
              have H4 := Lib.hid h4
              clear h4 hr2 hk2 r1 f1 rl d1 dl i1 i2 i3 i4 i5 i6
              go_upto_region 12 with fail
              obtain ⟨W4, hW4⟩ : ∃ W4, (w2.setCell ⟨F, 0, none⟩ (.string s1)).setCell ⟨F, 1, none⟩ (.string s2) = W4 := ⟨_, rfl⟩
              rw [hW4]
              have H4 := Lib.hid (show DE w W4 C h A R E by rw [← hW4]; exact H4.out)
              clear hW4 c0 c1 g0 g1 cF
              obtain ⟨r1, f1, rl⟩ := H4.out.cells
              go_upto_region 24 with fail
              go_quiet (fail)
              have HIB := Lib.hid (H4.out.ib.drewN nq)
              go_wp2
              go_ret2
              exact ⟨rfl, HIB.out⟩
            · have hfok : fOk f := fOk_lit HF.out.d.ci.tab.wt hg
              have hU2 : U ≤ bk.length := by have := (litV_used (xs := yk) (b := bk) (t := 6) (by rw [hg])).2; rw [hg] at this; exact this
              have HG := Lib.hid hg
              have HTM := Lib.hid htm
              have hfk := hfok
              clear hg htm r0 rb d2 h0i h0
              go_wp2_with fail
              refine (lit_ok HF.out.d.ci HF.out.d.rd (Nat.lt_of_lt_of_le HF.out.d.bw HF.out.d.kp.size) HF.out.d.bR HF.out.d.nR hbm 6 f U HG.out).mono ?_
              rintro e w2 ⟨rfl, hr2, hk2⟩
              have h2 := HF.out.read hr2 hk2
              clear r1 f1 rl d1 dl
              obtain ⟨-, r1, f1, rl, d1, d2, dl⟩ := h2.d.cells
              obtain ⟨c0, c1, g0, g1, cF⟩ := h2.cells
              have H4 := Lib.hid (h2.put (.string ⟨f.1.toArray⟩) (.string ⟨f.2.toArray⟩))
              clear h2 hr2 hk2 i1 i2 i3 i4 i5 i6
              go_upto_region 12 with fail
              obtain ⟨W3, hW3⟩ : ∃ W3, (w2.setCell ⟨F, 0, none⟩ (.string ⟨f.1.toArray⟩)).setCell ⟨F, 1, none⟩ (.string ⟨f.2.toArray⟩) = W3 := ⟨_, rfl⟩
              rw [hW3]
              have H3 := Lib.hid (show DFt w W3 C h A A' c' R B (bk.drop U) yk mk most u4 acc F (.string ⟨f.1.toArray⟩) (.string ⟨f.2.toArray⟩) by rw [← hW3]; exact H4.out)
              clear hW3 r1 f1 rl d1 d2 dl c0 c1 g0 g1 cF H4
              have r1 := H3.out.d.cells.2.1
              have d1 := H3.out.d.cells.2.2.2.2.1
              have c0 := H3.out.cells.1
              have c1 := H3.out.cells.2.1
              go_upto_region 13 with fail
              go_still_tail 5, (by kernel_rfl)
              have H3D := Lib.hid (H3.out.next ((Below.refl _ W3).drew))
              change wpList _ _ _ _ _ W3.drew
              generalize W3.drew = w3 at *
              clear r1 d1 c0 c1
              go_wp2_with fail
              refine (add_any H3D.out.d.ci.tab f hfk).mono ?_
              rintro e W4 ⟨rfl, hadd⟩
              obtain ⟨A2', c2', h4⟩ := H3D.out.add f hadd
              have H4 := Lib.hid h4
              clear h4 hadd
              go_upto_region 23 with fail
              have htm := HTM.out
              obtain ⟨-, r1, f1, rl, d1, d2, dl⟩ := H4.out.d.cells
              obtain ⟨c0, c1, -, -, cF⟩ := H4.out.cells
              obtain ⟨hfo, hl40⟩ := fOk_more HTA.out hfok
              have hla : acc.length + 1 ≤ 41 := by rw [List.length_append] at hl40; exact hl40
              have hTA : Reads (W4.alloc (.cells #[.string ⟨f.1.toArray⟩, .string ⟨f.2.toArray⟩] 86)) (W4.heap.size + 1) 2 (some ⟨W4.heap.size, 0, none⟩) 1 [.string ⟨f.1.toArray⟩, .string ⟨f.2.toArray⟩] := fld_tmp W4 f
              have hD5 := H4.out.d.next ((Below.refl W4.heap.size W4).alloc (Nat.le_refl _) (.cells #[.string ⟨f.1.toArray⟩, .string ⟨f.2.toArray⟩] 86))
              have HTA := Lib.hid hTA
              have HD5 := Lib.hid hD5
              have HFO := Lib.hid hfo
              have H40 := Lib.hid hl40
              have HBA := Lib.hid (show w.heap.size ≤ (W4.alloc (.cells #[.string ⟨f.1.toArray⟩, .string ⟨f.2.toArray⟩] 86)).heap.size from hD5.kp.size)
              clear hTA hD5 hfo hl40
              go_wp2_with (at_builtin; refine wpList_append_any _ rfl _ _ 76 rfl w.heap.size 86 i0 (.agg #[.string ⟨#[]⟩, .string ⟨#[]⟩]) 2 32 Tryd.underlying76 HI.out HZ0.out HZ1.out HZ2.out rfl (by decide) _ _ _ rfl HD5.out.row (W4.heap.size + 1) (some ⟨W4.heap.size, 0, none⟩) 1 1 [.string ⟨f.1.toArray⟩, .string ⟨f.2.toArray⟩] rfl HTA.out (fld_one f) (by unfold maxLen; omega) (by omega) HBA.out ?_; intro v2 w5 hown2 hg2 hv2; have HD6 := Lib.hid (HD5.out.push f hown2 hg2 hv2); obtain ⟨A2, c2, rfl⟩ := own_slice hown2; clear hown2 hg2 hv2)
              refine (full_any (acc ++ [f]) HFO.out (by have := H40.out; omega) A2 _ c2 (by simp) w5 (by have h := HD6.out.row; rw [show acc.length + 1 = (acc ++ [f]).length by simp] at h; exact reads_own h)).mono ?_
              rintro e w6 ⟨rfl, hb6⟩
              have HD7 := Lib.hid (HD6.out.next hb6)
              clear hb6
              rw [htm]
              have HIB := Lib.hid HD7.out.inBad
              go_wp2_with fail
              go_ret2
              exact ⟨rfl, HIB.out⟩
          · have i4 : ¬ (64 : Int) ≤ ((y0 : Nat) : Int) := by omega
            have i5 := decide_eq_false i4
            have i6 := decide_eq_false h64
            by_cases h32 : 32 ≤ y0
            · have i7 : (32 : Int) ≤ ((y0 : Nat) : Int) := by omega
              have i8 := decide_eq_true i7
              have i9 := decide_eq_true h32
              rcases heardS_size_bad HSE.out HEE.out (by rw [HY0.out]; exact h128) (by rw [HY0.out]; exact h64) (by rw [HY0.out]; exact h32) with hg | ⟨N, U, hg, hNm, rfl⟩ | ⟨N, U, hg, hNm, hl0, rfl⟩
              · have HG := Lib.hid hg
                clear hg r0 rb d2 h0i h0
                go_wp2_with fail
                refine (rnum_fault HF.out.d.rd hbm 5 E HG.out HEE.out).mono ?_
                rintro e w2 ⟨rfl, hr2, hk2⟩
                have H4 := Lib.hid (HF.out.d.fault hr2 hk2)
                clear r1 f1 rl d1 dl hr2 hk2
                obtain ⟨r1, f1, rl⟩ := H4.out.cells
                go_upto_region 24 with fail
                go_quiet (fail)
                have HIB := Lib.hid (H4.out.ib.drewN nq)
                go_wp2
                go_ret2
                exact ⟨rfl, HIB.out⟩
              · have HG := Lib.hid hg
                have hn1 : ((most : Nat) : Int) < ((N : Nat) : Int) := by omega
                have hn2 := decide_eq_true hn1
                have hn3 : decide (most < N) = true := by simp; omega
                obtain ⟨VA, vc, hv⟩ := own_slice HF.out.d.row
                clear hg r0 rb d2 h0i h0
                subst hv
                go_wp2_with fail
                refine (rnum_ok HF.out.d.rd HF.out.d.bR hbm 5 N U HG.out).mono ?_
                rintro e w2 ⟨rfl, hr2, hk2⟩
                have h2 := HF.out.d.read hr2 hk2
                clear r1 f1 rl d1 dl
                obtain ⟨-, r1, f1, rl, d1, d2, dl⟩ := h2.cells
                have HIB := Lib.hid h2.inBad
                clear h2 hr2 hk2
                go_wp2_with fail
                go_ret2
                exact ⟨rfl, HIB.out⟩
              · have HG := Lib.hid hg
                have hn1 : ¬ ((most : Nat) : Int) < ((N : Nat) : Int) := by omega
                have hn2 := decide_eq_false hn1
                have hn3 : decide (most < N) = false := by simp; omega
                have hl1 : (0 : Int) < ((acc.length : Nat) : Int) := by omega
                have hl2 := decide_eq_true hl1
                have hl3 := decide_eq_true hl0
                obtain ⟨VA, vc, hv⟩ := own_slice HF.out.d.row
                clear hg r0 rb d2 h0i h0
                subst hv
                go_wp2_with fail
                refine (rnum_ok HF.out.d.rd HF.out.d.bR hbm 5 N U HG.out).mono ?_
                rintro e w2 ⟨rfl, hr2, hk2⟩
                have h2 := HF.out.d.read hr2 hk2
                clear r1 f1 rl d1 dl
                obtain ⟨-, r1, f1, rl, d1, d2, dl⟩ := h2.cells
                have HIB := Lib.hid h2.inBad
                clear h2 hr2 hk2
                go_wp2_with fail
                go_ret2
                exact ⟨rfl, HIB.out⟩
            · have i7 : ¬ (32 : Int) ≤ ((y0 : Nat) : Int) := by omega
              have i8 := decide_eq_false i7
              have i9 := decide_eq_false h32
              rcases heardS_low_bad HSE.out HEE.out (by rw [HY0.out]; exact h128) (by rw [HY0.out]; exact h64) (by rw [HY0.out]; exact h32) with ⟨f, U, hg⟩ | ⟨f, U, hg, htm, rfl⟩
              · have HG := Lib.hid hg
                clear hg r0 rb d2 h0i h0
                go_wp2_with fail
                refine (lit_fault HF.out.d.ci HF.out.d.rd (Nat.lt_of_lt_of_le HF.out.d.bw HF.out.d.kp.size) HF.out.d.bR HF.out.d.nR hbm 4 f U E HG.out HEE.out).mono ?_
                rintro e w2 ⟨⟨s1, s2, rfl⟩, hr2, hk2⟩
                obtain ⟨h4, c0, c1, g0, g1, cF⟩ := HF.out.faultPut hr2 hk2 (.string s1) (.string s2)
                have H4 := Lib.hid h4
                clear h4 hr2 hk2 r1 f1 rl d1 dl i1 i2 i3 i4 i5 i6 i7 i8 i9
                go_upto_region 23 with fail
                obtain ⟨W4, hW4⟩ : ∃ W4, (w2.setCell ⟨F, 0, none⟩ (.string s1)).setCell ⟨F, 1, none⟩ (.string s2) = W4 := ⟨_, rfl⟩
                rw [hW4]
                have H4 := Lib.hid (show DE w W4 C h A R E by rw [← hW4]; exact H4.out)
                clear hW4 c0 c1 g0 g1 cF
                obtain ⟨r1, f1, rl⟩ := H4.out.cells
                go_upto_region 24 with fail
                go_quiet (fail)
                have HIB := Lib.hid (H4.out.ib.drewN nq)
                go_wp2
                go_ret2
                exact ⟨rfl, HIB.out⟩
              · have hfok : fOk f := fOk_lit HF.out.d.ci.tab.wt hg
                have hU2 : U ≤ bk.length := by have := (litV_used (xs := yk) (b := bk) (t := 4) (by rw [hg])).2; rw [hg] at this; exact this
                have HG := Lib.hid hg
                have HTM := Lib.hid htm
                clear hg htm r0 rb d2 h0i h0
                go_wp2_with fail
                refine (lit_ok HF.out.d.ci HF.out.d.rd (Nat.lt_of_lt_of_le HF.out.d.bw HF.out.d.kp.size) HF.out.d.bR HF.out.d.nR hbm 4 f U HG.out).mono ?_
                rintro e w2 ⟨rfl, hr2, hk2⟩
                have h2 := HF.out.read hr2 hk2
                clear r1 f1 rl d1 dl
                obtain ⟨-, r1, f1, rl, d1, d2, dl⟩ := h2.d.cells
                obtain ⟨c0, c1, g0, g1, cF⟩ := h2.cells
                have H4 := Lib.hid (h2.put (.string ⟨f.1.toArray⟩) (.string ⟨f.2.toArray⟩))
                clear h2 hr2 hk2 i1 i2 i3 i4 i5 i6 i7 i8 i9
                go_upto_region 23 with fail
                obtain ⟨W4, hW4⟩ : ∃ W4, (w2.setCell ⟨F, 0, none⟩ (.string ⟨f.1.toArray⟩)).setCell ⟨F, 1, none⟩ (.string ⟨f.2.toArray⟩) = W4 := ⟨_, rfl⟩
                rw [hW4]
                have H4 := Lib.hid (show DFt w W4 C h A A' c' R B (bk.drop U) yk mk most u4 acc F (.string ⟨f.1.toArray⟩) (.string ⟨f.2.toArray⟩) by rw [← hW4]; exact H4.out)
                clear hW4 r1 f1 rl d1 d2 dl c0 c1 g0 g1 cF
                have htm := HTM.out
                obtain ⟨-, r1, f1, rl, d1, d2, dl⟩ := H4.out.d.cells
                obtain ⟨c0, c1, -, -, cF⟩ := H4.out.cells
                obtain ⟨hfo, hl40⟩ := fOk_more HTA.out hfok
                have hla : acc.length + 1 ≤ 41 := by rw [List.length_append] at hl40; exact hl40
                have hTA : Reads (W4.alloc (.cells #[.string ⟨f.1.toArray⟩, .string ⟨f.2.toArray⟩] 86)) (W4.heap.size + 1) 2 (some ⟨W4.heap.size, 0, none⟩) 1 [.string ⟨f.1.toArray⟩, .string ⟨f.2.toArray⟩] := fld_tmp W4 f
                have hD5 := H4.out.d.next ((Below.refl W4.heap.size W4).alloc (Nat.le_refl _) (.cells #[.string ⟨f.1.toArray⟩, .string ⟨f.2.toArray⟩] 86))
                have HTA := Lib.hid hTA
                have HD5 := Lib.hid hD5
                have HFO := Lib.hid hfo
                have H40 := Lib.hid hl40
                have HBA := Lib.hid (show w.heap.size ≤ (W4.alloc (.cells #[.string ⟨f.1.toArray⟩, .string ⟨f.2.toArray⟩] 86)).heap.size from hD5.kp.size)
                clear hTA hD5 hfo hl40
                go_wp2_with (at_builtin; refine wpList_append_any _ rfl _ _ 76 rfl w.heap.size 86 i0 (.agg #[.string ⟨#[]⟩, .string ⟨#[]⟩]) 2 32 Tryd.underlying76 HI.out HZ0.out HZ1.out HZ2.out rfl (by decide) _ _ _ rfl HD5.out.row (W4.heap.size + 1) (some ⟨W4.heap.size, 0, none⟩) 1 1 [.string ⟨f.1.toArray⟩, .string ⟨f.2.toArray⟩] rfl HTA.out (fld_one f) (by unfold maxLen; omega) (by omega) HBA.out ?_; intro v2 w5 hown2 hg2 hv2; have HD6 := Lib.hid (HD5.out.push f hown2 hg2 hv2); obtain ⟨A2, c2, rfl⟩ := own_slice hown2; clear hown2 hg2 hv2)
                refine (full_any (acc ++ [f]) HFO.out (by have := H40.out; omega) A2 _ c2 (by simp) w5 (by have h := HD6.out.row; rw [show acc.length + 1 = (acc ++ [f]).length by simp] at h; exact reads_own h)).mono ?_
                rintro e w6 ⟨rfl, hb6⟩
                have HD7 := Lib.hid (HD6.out.next hb6)
                clear hb6
                rw [htm]
                have HIB := Lib.hid HD7.out.inBad
                go_wp2_with fail
                go_ret2
                exact ⟨rfl, HIB.out⟩
end Go.Proofs.YtkbbkamnmdeagaaDoor
