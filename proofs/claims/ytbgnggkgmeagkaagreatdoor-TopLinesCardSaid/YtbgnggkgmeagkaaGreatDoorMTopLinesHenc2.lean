/-
  Encode of a coder: what it writes. Condition: the fields' texts' lengths; the list lies below the coder's own blocks.
-/
import Derived.Test.YtbgnggkgmeagkaaGreatDoorMTopLines12
import Derived.Test.YtbgnggkgmeagkaaGreatDoorMTopLines09
import Derived.StillTailTactics
set_option linter.unusedSimpArgs false
set_option linter.unusedVariables false
namespace Go.Proofs.YtbgnggkgmeagkaaGreatDoor
open Go.RowKit
variable {qo : Value × Value × Value}
attribute [local go_sem ↓] Go.wp_at_zero Go.wp_at_succ

/-- The least of the first k sizes, the first being there. -/
def leastK (p : Nat) (r : List Nat) (k : Nat) : Nat := ((p :: r).take k).foldl min p
theorem leastK_zero (p : Nat) (r : List Nat) : leastK p r 0 = p := rfl
theorem leastK_succ (p : Nat) (r : List Nat) (k : Nat) (h : k < (p :: r).length) : leastK p r (k + 1) = min (leastK p r k) ((p :: r)[k]) := by
  unfold leastK
  rw [List.take_succ_eq_append_getElem h, List.foldl_append]
  rfl
theorem leastK_all (p : Nat) (r : List Nat) : leastK p r (p :: r).length = leastP p r := by
  unfold leastK leastP
  rw [List.take_length]
  show r.foldl min (min p p) = _
  rw [Nat.min_self]
theorem saidP_yes {p : Nat} {r : List Nat} {z m : Nat} (hz : (p :: r).getLast (by simp) = z) (hm : m = leastP p r) (h : m < z) : saidP (p :: r) = [] ++ putL (m : Nat) 5 32 ++ putL (z : Nat) 5 32 := by
  subst hm
  simp only [saidP, hz, if_pos h, List.nil_append]
theorem saidP_no {p : Nat} {r : List Nat} {z m : Nat} (hz : (p :: r).getLast (by simp) = z) (hm : m = leastP p r) (h : ¬ m < z) : saidP (p :: r) = [] ++ putL (m : Nat) 5 32 := by
  subst hm
  simp only [saidP, hz, if_neg h, List.nil_append, List.append_nil]
theorem szs_at (ps : List Nat) (k : Nat) (h : k < ps.length) : (szs ps)[k]? = some (.int .i64 ((ps[k] : Nat) : Int)) := by
  simp [szs, List.getElem?_eq_getElem h]

theorem row_succ {W : World} {base : Nat} {e : TypeId} {size : Nat} {v : Value} {k : Nat} {xs : List Value} (h : W.ownsRow base e size v (k + 1) xs) : ∃ g cap, v = .slice (some ⟨g, 0, none⟩) (k + 1) cap := by
  rcases h.2 with ⟨_, h0⟩ | ⟨g, cap, cur, rfl, _⟩
  · omega
  · exact ⟨_, _, rfl⟩

/-- Between the lengths and the fields: a writer of the call's own. -/
structure PreAt (w wr : World) (C g : Nat) (A : Option Addr) (c : Nat) (Sv : Value) (G : Nat) (xs : List Fld) (mx : Nat) (ps : List Nat) (b : List UInt8) (qo : Value × Value × Value) : Prop where
  below : Below w.heap.size w wr
  co : COut wr C g A c Sv xs mx ps qo
  wr_ : ∃ v, Wr wr G v b ∧ ∀ k, wOwn G v k → w.heap.size ≤ k
  lt : ∀ k, oOwn C g A Sv k → k < w.heap.size
section
variable {w wr w1 : World} {C g G mx c : Nat} {A : Option Addr} {Sv : Value} {xs : List Fld} {ps : List Nat} {b : List UInt8}
theorem PreAt.next (h : PreAt w wr C g A c Sv G xs mx ps b qo) (hb : Below wr.heap.size wr w1) : PreAt w w1 C g A c Sv G xs mx ps b qo := by
  obtain ⟨h1, h2, ⟨v, h3, h4⟩, h5⟩ := h
  exact ⟨h1.trans (hb.mono h1.size), h2.below hb, ⟨v, h3.keep (S := fun _ => False) (Keep.of_below hb) (fun _ _ h => h), h4⟩, h5⟩
theorem pre_num (h : PreAt w wr C g A c Sv G xs mx ps b qo) (n bits first : Int) (hl : b.length + (putL n bits first).length ≤ 140737488355328) :
    Calls Tryz.prog 41 #[.pointer (some ⟨G, 0, none⟩), .int .i64 n, .int .i64 bits, .int .i64 first] wr fun e w' => e = .returned (.tuple #[]) ∧ PreAt w w' C g A c Sv G xs mx ps (b ++ putL n bits first) qo ∧ wr.heap.size ≤ w'.heap.size := by
  obtain ⟨h1, h2, ⟨v, h3, h4⟩, h5⟩ := h
  refine (wnum_any h3 n bits first hl).mono ?_
  rintro e w' ⟨he, v', h6, h7, h8⟩
  have hb : Below w.heap.size wr w' := h7.below h1.size h4
  refine ⟨he, ⟨h1.trans hb, h2.keep h7 (fun k hk hs => ?_), ⟨v', h6, fun k hk => ?_⟩, h5⟩, h7.size⟩
  · have e1 := h5 k hk
    have e2 := h4 k hs
    omega
  · rcases h8 k hk with h | h
    · exact h4 k h
    · exact Nat.le_trans h1.size h
/-- The sizes put aside. -/
theorem enc_start (h : PreAt w wr C g A c Sv G xs mx ps b qo) : EncAt w (wr.setCell ⟨C, 3, none⟩ (.slice none 0 0)) C g A Sv G xs mx b qo ∧ wr.cell? ⟨C, 3, none⟩ = some Sv ∧ wr.frozen? ⟨C, 3, none⟩ = false ∧ C < wr.heap.size := by
  obtain ⟨h1, h2, ⟨v, h3, h4⟩, h5⟩ := h
  have hne := h2.ne
  obtain ⟨hb, ht, hr⟩ := h2
  have k3 : Keep (fun k => k = C) wr (wr.setCell ⟨C, 3, none⟩ (.slice none 0 0)) := (Keep.refl (fun k => k = C) wr).setCell (p := ⟨C, 3, none⟩) (.inl rfl) _
  have hC : C < w.heap.size := h5 C (.inl rfl)
  refine ⟨⟨A, c, v, ⟨?_, ht.keep k3 fun k hk he => hne.1 (he ▸ hk), World.ownsRow_nil _ _ _ _⟩, h3.keep k3 fun k hk he => ?_, (Keep.of_below (S := oOwn C g A Sv) h1).trans k3 fun i hi => .inl (.inl hi), ?_, h4, fun k hk ho => ?_⟩, hb.cell 3, hb.frozen 3, hb.lt⟩
  · have := hb.set_ 3 (.slice none 0 0)
    simpa using this
  · have e1 := h4 k hk
    omega
  · rintro k (rfl | hk | hk)
    · exact .inl (.inl rfl)
    · exact .inl (.inr (.inl hk))
    · simp [Value.ownBlock] at hk
  · have e1 := h4 k hk
    rcases ho with rfl | ho | ho
    · omega
    · have := h5 k (.inr (.inl ho))
      omega
    · simp [Value.ownBlock] at ho
/-- No sizes at all. -/
theorem enc_start0 (h : PreAt w wr C g A c (.slice none 0 0) G xs mx [] b qo) : EncAt w wr C g A (.slice none 0 0) G xs mx b qo := by
  obtain ⟨h1, h2, ⟨v, h3, h4⟩, h5⟩ := h
  refine ⟨A, c, v, h2, h3, Keep.of_below h1, fun k hk => .inl hk, h4, fun k hk ho => ?_⟩
  have e1 := h4 k hk
  have e2 := h5 k ho
  omega
theorem pre_new (H : COut w C g A c Sv xs mx ps qo) (hb : Below w.heap.size w wr) : PreAt w (wr.alloc (.cells #[.slice none 0 0] 97)) C g A c Sv wr.heap.size xs mx ps [] qo := by
  have hba : Below wr.heap.size wr (wr.alloc (.cells #[.slice none 0 0] 97)) := (Below.refl _ _).alloc (Nat.le_refl _) _
  refine ⟨hb.trans (hba.mono hb.size), (H.below hb).below hba, ⟨.slice none 0 0, ⟨Blk.new wr _ _, World.ownsRow_nil _ _ _ _⟩, ?_⟩, H.lt⟩
  rintro k (rfl | hk)
  · exact hb.size
  · simp [Value.ownBlock] at hk
/-- The cells that Encode reads of the sizes. -/
theorem pre_sizes (h : PreAt w wr C g A c Sv G xs mx ps b qo) : wr.cell? ⟨C, 3, none⟩ = some Sv ∧ C < wr.heap.size ∧ (∃ SA sc, Sv = .slice SA ps.length sc) ∧ (ps ≠ [] → ∃ q cap, Sv = .slice (some ⟨q, 0, none⟩) ps.length cap ∧ q < wr.heap.size ∧ ∀ k (hk : k < ps.length), wr.cell? ⟨q, k, none⟩ = some (.int .i64 ((ps[k] : Nat) : Int))) := by
  obtain ⟨h1, ⟨hb, ht, hr⟩, h3, h4⟩ := h
  refine ⟨hb.cell 3, hb.lt, own_slice hr, fun hne => ?_⟩
  obtain ⟨n, hn⟩ : ∃ n, ps.length = n + 1 := ⟨ps.length - 1, by have := List.length_pos_iff.2 hne; omega⟩
  have hr2 := hr
  rw [hn] at hr2
  obtain ⟨q, cap, rfl⟩ := row_succ hr2
  refine ⟨q, cap, by rw [hn], ?_, fun k hk => ?_⟩
  · exact (hr.lt q rfl).2
  · have hc := hr.cells (g := q) rfl k _ (szs_at ps k hk)
    rw [Addr.add_lit, Nat.zero_add] at hc
    exact hc
end

theorem own_capW {w : World} {B size n c : Nat} {e : TypeId} {A : Option Addr} {xs : List Value} (h : w.ownsRow B e size (.slice A n c) n xs) : n ≤ c := by
  rcases h.2 with ⟨he, h0⟩ | ⟨g, cap, cur, he, _, _, _, hm, hl, _⟩
  · omega
  · cases he
    omega
/-- What Encode leaves of the coder: no sizes are put by. -/
def EncDone (w w' : World) (C g : Nat) (A : Option Addr) (Sv : Value) (xs' : List Fld) (mx : Nat) (qo : Value × Value × Value) : Prop :=
  ∃ A' c', COut w' C g A' c' (.slice none 0 0) xs' mx [] qo ∧ Keep (oOwn C g A Sv) w w' ∧ ∀ k, oOwn C g A' (.slice none 0 0) k → oOwn C g A Sv k ∨ w.heap.size ≤ k
theorem reads_keepE {S : Nat → Prop} {w w' : World} {B size n : Nat} {A : Option Addr} {xs : List Value} (h : Reads w B size A n xs) (hk : Keep S w w') (hB : B ≤ w.heap.size) (hS : ∀ ad, A = some ad → 0 < n → ¬ S ad.block) : Reads w' B size A n xs := by
  refine ⟨h.1, fun h0 => ?_⟩
  obtain ⟨ad, e, hb, hc⟩ := h.2 h0
  refine ⟨ad, e, hb, fun j u hu => ?_⟩
  have h1 := hc j u hu
  have h2 := hk.block ad.block (by omega) (hS ad e h0)
  have h3 : (ad.add j).block = ad.block := block_of_add _ _
  rw [← h3] at h2
  rw [← h1]
  unfold World.cell?
  rw [h2]
/-- A field's block stays, whatever a writer writes. -/
def KeepF (w w' : World) : Prop := ∀ F cs, Blk w F 41 cs → Blk w' F 41 cs
theorem keepF_wr {wr w' : World} {G : Nat} {v : Value} {b : List UInt8} (h : Wr wr G v b) (hk : Keep (wOwn G v) wr w') : KeepF wr w' := by
  intro F cs hF
  refine hF.keep hk ?_
  rintro (rfl | hk)
  · exact Blk.ne_ hF h.blk (by decide) rfl
  · exact own_blk_ne h.own hF (by decide) hk
theorem enc_num2 {w wr : World} {C g G mx : Nat} {A : Option Addr} {Sv : Value} {xs : List Fld} {b : List UInt8} (h : EncAt w wr C g A Sv G xs mx b qo) (n bits first : Int) (hl : b.length + (putL n bits first).length ≤ 140737488355328) :
    Calls Tryz.prog 41 #[.pointer (some ⟨G, 0, none⟩), .int .i64 n, .int .i64 bits, .int .i64 first] wr fun e w' => e = .returned (.tuple #[]) ∧ EncAt w w' C g A Sv G xs mx (b ++ putL n bits first) qo ∧ KeepF wr w' := by
  obtain ⟨A', c', v, h1, h2, h3, h4, h5, h6⟩ := h
  refine (wnum_any h2 n bits first hl).mono ?_
  rintro e w' ⟨he, hw⟩
  refine ⟨he, (enc_wrote h1 h3 h4 h5 h6 hw).1, ?_⟩
  obtain ⟨_, _, h8, _⟩ := hw
  exact keepF_wr h2 h8
theorem enc_text2 {w wr : World} {C g G mx : Nat} {A : Option Addr} {Sv : Value} {xs : List Fld} {b : List UInt8} (h : EncAt w wr C g A Sv G xs mx b qo) (s : List UInt8) (hs : s.length ≤ 140737488355328) (hl : b.length + (txtL s).length ≤ 140737488355328) :
    Calls Tryz.prog 43 #[.pointer (some ⟨G, 0, none⟩), .string ⟨s.toArray⟩] wr fun e w' => e = .returned (.tuple #[]) ∧ EncAt w w' C g A Sv G xs mx (b ++ txtL s) qo ∧ KeepF wr w' := by
  obtain ⟨A', c', v, h1, h2, h3, h4, h5, h6⟩ := h
  refine (wtext_any h2 s hs hl).mono ?_
  rintro e w' ⟨he, hw⟩
  refine ⟨he, (enc_wrote h1 h3 h4 h5 h6 hw).1, ?_⟩
  obtain ⟨_, _, h8, _⟩ := hw
  exact keepF_wr h2 h8
theorem saidF_yes {mx : Nat} {xs : List Fld} {f : Fld} {p : Nat} (hp : fnd (isF f) (tAll xs) = p) (h : 0 < p) : saidF mx xs f = putL (p : Nat) 7 128 ∧ nextF mx xs f = xs := by
  subst hp
  constructor
  · rw [saidF, if_pos (by omega)]
  · rw [nextF, if_pos (by omega)]
theorem saidF_lit {mx : Nat} {xs : List Fld} {f : Fld} {p q : Nat} (hp : fnd (isF f) (tAll xs) = p) (h : p = 0) (hq : fnd (isN f) (tAll xs) = q) (hq0 : 0 < q) : saidF mx xs f = putL (q : Nat) 6 64 ++ txtL f.2 ∧ nextF mx xs f = tAdd mx xs f := by
  subst hp hq
  constructor
  · rw [saidF, if_neg (by omega), if_neg (by omega), List.append_nil]
  · rw [nextF, if_neg (by omega)]
theorem saidF_all {mx : Nat} {xs : List Fld} {f : Fld} {p q : Nat} (hp : fnd (isF f) (tAll xs) = p) (h : p = 0) (hq : fnd (isN f) (tAll xs) = q) (hq0 : q = 0) : saidF mx xs f = putL (q : Nat) 6 64 ++ txtL f.1 ++ txtL f.2 ∧ nextF mx xs f = tAdd mx xs f := by
  subst hp hq
  constructor
  · rw [saidF, if_neg (by omega), if_pos (by omega)]
  · rw [nextF, if_neg (by omega)]

set_option maxRecDepth 100000 in
set_option maxHeartbeats 4000000 in
theorem cenc_fine {w : World} {C g : Nat} {A : Option Addr} {c : Nat} {Sv : Value} {xs : List Fld} {mx : Nat} {ps : List Nat} (H : COut w C g A c Sv xs mx ps qo) (hps : ∀ p ∈ ps, p ≤ 4096) (hSv : ps = [] → Sv = .slice none 0 0) (hpl : ps.length ≤ 1000000) (l : List Fld) (hf : ∀ f ∈ l, fOk f) (hm : l.length ≤ 140737488355328) (hE : saidE l = 0)
    (LA : Option Addr) (n lc : Nat) (hn : n = l.length) (hr : Reads w w.heap.size 2 LA l.length (fvs l)) (hBl : ∀ ad, LA = some ad → 0 < l.length → ¬ oOwn C g A Sv ad.block) :
    Calls Tryz.prog 10 #[.pointer (some ⟨C, 0, none⟩), .slice LA n lc] w fun e w' => ∃ A' n' c', e = .returned (.tuple #[.slice A' n' c', .nilIface]) ∧ n' = (saidP ps ++ saidL mx xs l).length ∧ n' ≤ c' ∧ Reads w' w'.heap.size 1 A' n' (bs (saidP ps ++ saidL mx xs l)) ∧ (∀ ad, A' = some ad → w.heap.size ≤ ad.block ∧ ad.block < w'.heap.size) ∧ ∃ A3 c3, COut w' C g A3 c3 (.slice none 0 0) (nextL mx xs l) mx [] qo ∧ Keep (oOwn C g A Sv) w w' ∧ (∀ k, oOwn C g A3 (.slice none 0 0) k → oOwn C g A Sv k ∨ w.heap.size ≤ k) ∧ (∀ ad, A' = some ad → ¬ oOwn C g A3 (.slice none 0 0) ad.block) ∧ w'.ownsRow 0 5 1 (.slice A' n' c') n' (bs (saidP ps ++ saidL mx xs l)) := by
  subst hn
  have hE1 : tooMuch l = false ∧ tooLong l = false := by
    unfold saidE at hE
    split at hE
    · cases hE
    · rename_i h
      simpa using h
  have HM1 := Lib.hid hE1.1
  have HL1 := Lib.hid (tooLong_each hE1.2)
  have HR := Lib.hid hr
  have HH := Lib.hid H
  have HPS := Lib.hid hps
  have HSV := Lib.hid hSv
  have HBL := Lib.hid hBl
  clear hE hE1 hps hSv hBl H
  go_enter Tryz.func10, Tryz.ntmps10
  go_wp2_with fail
  refine (full_any l hf hm LA _ lc rfl w hr).mono ?_
  rintro e w1 ⟨rfl, hb1⟩
  rw [HM1.out]
  have HB1 := Lib.hid hb1
  clear hb1 hr
  go_wp2
  go_loopw [23] (fun i wr => ∃ k : Nat, k ≤ l.length ∧ i = .int .i64 (k : Int) ∧ Hid (Below w.heap.size w wr)) (fun i _ => l.length - (intOf i).toNat)
  case atStart => exact ⟨0, Nat.zero_le _, rfl, HB1.out⟩
  case round =>
    obtain ⟨k, hk, rfl, HBr⟩ := hrel
    by_cases hlt : k < l.length
    · obtain ⟨b, off, rfl, hbB, hcl⟩ := reads_fld (HR.out.below HBr.out) (by omega)
      obtain ⟨e0, e1⟩ := hcl k hlt
      have hbr := Nat.lt_of_lt_of_le hbB HBr.out.size
      obtain ⟨g1, g2⟩ := HL1.out l[k] (List.getElem_mem hlt)
      have HB2 := Lib.hid (HBr.out.alloc HBr.out.size (.cells #[.string ⟨l[k].1.toArray⟩, .string ⟨l[k].2.toArray⟩] 41))
      clear hcl
      generalize l[k] = f at *
      obtain ⟨i1, i2⟩ := len_le g1
      obtain ⟨i3, i4⟩ := len_le g2
      clear g1 g2
      go_wp2
      go_roundw
      case rel => exact ⟨k + 1, by omega, by go_num, HB2.out⟩
      case measure => simp [intOf]; omega
    · have hpre := pre_new (HH.out) HBr.out
      obtain ⟨G, hG⟩ : ∃ G, wr.heap.size = G := ⟨_, rfl⟩
      obtain ⟨Wp, hWp⟩ : ∃ Wp, wr.alloc (.cells #[.slice none 0 0] 97) = Wp := ⟨_, rfl⟩
      rw [hG, hWp] at hpre
      have HPRE := Lib.hid hpre
      obtain ⟨z3, zC, ⟨SA, sc, hsv⟩, zS⟩ := pre_sizes hpre
      have ZS := Lib.hid zS
      rw [hsv] at z3
      have HSVE := Lib.hid hsv
      have HGE := Lib.hid hG
      have HWP := Lib.hid hWp
      clear hpre zS hsv hG hWp
      go_upto_region 10 with fail
      rw [HWP.out, HGE.out]
      clear hlt hk HBr HGE HWP
      go_upto_if 45 with fail
      go_cut [] from 9 to 82 (fun wx => EncAt w wx C g A Sv G xs mx (saidP ps) qo)
      case first =>
        cases ps with
        | nil =>
          go_wp2
          go_meet
          have h := HPRE.out
          have hs0 : Sv = .slice none 0 0 := by first | exact HSV.out rfl | exact HSV.out trivial
          rw [hs0] at h ⊢
          exact enc_start0 h
        | cons p r =>
          obtain ⟨q, cap, hq1, hq2, hq3⟩ := ZS.out (by simp)
          have hq4 := HSVE.out.symm.trans hq1
          injection hq4 with hq5 hq6 hq7
          subst hq5
          subst hq7
          obtain ⟨n, hn⟩ : ∃ n, (p :: r).length = n := ⟨_, rfl⟩
          have hn1 : 0 < n := by rw [← hn]; simp
          have x0 : Wp.cell? ⟨q, 0, none⟩ = some (.int .i64 ((p : Nat) : Int)) := hq3 0 (by simp)
          have xl := hq3 (n - 1) (by omega)
          have hlast : (p :: r)[n - 1]'(by omega) = (p :: r).getLast (by simp) := by rw [List.getLast_eq_getElem]; simp [hn]
          rw [hlast] at xl
          obtain ⟨z, hz⟩ : ∃ z, (p :: r).getLast (by simp) = z := ⟨_, rfl⟩
          rw [hz] at xl
          rw [hn] at z3 hpl ⊢
          have hnw : wrap64 (((n : Nat) : Int) - 1) = ((n - 1 : Nat) : Int) := by
            unfold wrap64
            omega
          have HX := Lib.hid (And.intro hn (And.intro hz hq3))
          have hni : (0 : Int) < ((n : Nat) : Int) := by omega
          have hnd : decide (0 < n) = true := decide_eq_true hn1
          clear hn hz hlast hq3 hq1
          go_upto_region 12 with fail
          go_quiet (fail)
          have hpd := HPRE.out.next (below_dN (Below.refl _ Wp) nq)
          have HPD := Lib.hid hpd
          generalize Wp.drewN nq = Wq at *
          simp only [hnd]
          obtain ⟨y3, yC, -, yS⟩ := pre_sizes HPD.out
          obtain ⟨q', cap', hq1, hq2, hq3⟩ := yS (by simp)
          have hq4 := HSVE.out.symm.trans hq1
          injection hq4 with hq5 hq6 hq7
          injection hq5 with hq5
          injection hq5 with hq5
          subst hq5
          rw [HSVE.out, HX.out.1] at y3
          have HQ3 := Lib.hid hq3
          clear hpd yS hq3 hq1 z3 x0 xl hnd hnw hni hq6 hq7
          go_wp2
          go_loopw [10, 65] (fun m i wr => ∃ k : Nat, k ≤ n ∧ i = .int .i64 (k : Int) ∧ m = .int .i64 ((leastK p r k : Nat) : Int) ∧ wr = Wq) (fun _ i _ => n - (intOf i).toNat)
          case atStart => exact ⟨0, Nat.zero_le _, rfl, rfl, rfl⟩
          case round =>
            obtain ⟨k, hk, rfl, rfl, rfl⟩ := hrel
            by_cases hlt : k < n
            · have hnn := HX.out.1
              have e0 := HQ3.out k (by omega)
              have hls := leastK_succ p r k (by omega)
              obtain ⟨y, hy⟩ : ∃ y, (p :: r)[k]'(by omega) = y := ⟨_, rfl⟩
              rw [hy] at e0 hls
              have HLS := Lib.hid hls
              clear hls hy hnn
              generalize leastK p r k = x at *
              go_wp2
              go_roundw
              case rel => exact ⟨k + 1, by omega, by go_num, by rw [HLS.out]; go_num, trivial⟩
              case measure => simp [intOf]; omega
            · obtain rfl : k = n := by omega
              have hla := leastK_all p r
              rw [HX.out.1] at hla
              obtain ⟨m, hm2⟩ : ∃ m, leastK p r k = m := ⟨_, rfl⟩
              rw [hm2] at hla ⊢
              have hm4 : m ≤ 4096 := by
                have h1 := (leastP_le r p).1
                have h2 := HPS.out p (by simp)
                omega
              have hz4 : z ≤ 4096 := by
                have h2 := HPS.out _ (List.getLast_mem (l := p :: r) (by simp))
                have h3 := HX.out.2.1
                omega
              have hb1 : ([] : List UInt8).length + (putL (m : Nat) 5 32).length ≤ 140737488355328 := by
                have := putL_len m 5 32 (by omega)
                simp only [List.length_nil]
                omega
              have hb2 : ([] ++ putL (m : Nat) 5 32).length + (putL (z : Nat) 5 32).length ≤ 140737488355328 := by
                have h1 := putL_len m 5 32 (by omega)
                have h2 := putL_len z 5 32 (by omega)
                simp only [List.nil_append]
                omega
              have HLA := Lib.hid hla
              clear hm2 hla hlt hk hm4 hz4
              go_wp2_with fail
              refine (pre_num HPD.out _ 5 32 hb1).mono ?_
              rintro e w2 ⟨rfl, hp2, -⟩
              have HP2 := Lib.hid hp2
              clear hp2
              by_cases hmz : m < z
              · have i1 : ((m : Nat) : Int) < ((z : Nat) : Int) := by omega
                have i2 := decide_eq_true i1
                go_wp2_with fail
                refine (pre_num HP2.out _ 5 32 hb2).mono ?_
                rintro e w3 ⟨rfl, hp3, -⟩
                obtain ⟨hE, s3, f3, l3⟩ := enc_start hp3
                have HEA := Lib.hid hE
                clear hp3 hE
                go_wp2
                go_meet
                have h := HEA.out
                rw [saidP_yes (HX.out.2.1) HLA.out hmz]
                exact h
              · have i1 : ¬ ((m : Nat) : Int) < ((z : Nat) : Int) := by omega
                have i2 := decide_eq_false i1
                obtain ⟨hE, s3, f3, l3⟩ := enc_start HP2.out
                have HEA := Lib.hid hE
                clear hE
                go_wp2
                go_meet
                have h := HEA.out
                rw [saidP_no (HX.out.2.1) HLA.out hmz]
                exact h
      case rest =>
        have hxl : wt xs ≤ 4096 ∧ mx ≤ 4096 := ⟨HH.out.tab.wt, HH.out.tab.mx⟩
        have hl40 : l.length ≤ 40 := by
          have := HM1.out
          simp [tooMuch] at this
          omega
        have hbl : ∀ k, (saidP ps ++ saidL mx xs (l.take k)).length ≤ 202000 := fun k => by
          have h1 := saidL_len mx hxl.2 (l.take k) xs hxl.1
          have h2 := saidP_len ps HPS.out
          rw [List.length_append]
          have h3 : (l.take k).length ≤ 40 := by rw [List.length_take]; omega
          omega
        have HBL2 := Lib.hid hbl
        have HCUT := Lib.hid hcut
        clear hbl hxl hcut hl40
        go_wp2_with fail
        go_loopg [85] l.length (fun n i wr => ∃ k : Nat, n + k = l.length ∧ i = .int .i64 (k : Int) ∧ Hid (EncAt w wr C g A Sv G (nextL mx xs (l.take k)) mx (saidP ps ++ saidL mx xs (l.take k)) qo))
        case atStart => exact ⟨0, rfl, rfl, by simpa [nextL, saidL, Hid] using HCUT.out⟩
        case round =>
          obtain ⟨k, hk, rfl, HEr⟩ := hrel
          by_cases hlt : k < l.length
          · obtain ⟨y0, y1, yC, yw⟩ := HEr.out.cells
            have hrr : Reads wr w.heap.size 2 LA l.length (fvs l) := by
              obtain ⟨_, _, _, _, _, hkp, _⟩ := HEr.out
              exact reads_keepE HR.out hkp (Nat.le_refl _) HBL.out
            obtain ⟨b, off, rfl, hbB, hcl⟩ := reads_fld hrr (by omega)
            obtain ⟨e0, e1⟩ := hcl k hlt
            have hbr := Nat.lt_of_lt_of_le hbB yw
            have hnx := nextL_take mx xs l k hlt
            have hsd := saidL_take mx xs l k hlt
            have hfo := hf l[k] (List.getElem_mem hlt)
            have hb0 := HBL2.out k
            obtain ⟨xk, hxk⟩ : ∃ xk, nextL mx xs (l.take k) = xk := ⟨_, rfl⟩
            obtain ⟨bk, hbk⟩ : ∃ bk, saidP ps ++ saidL mx xs (l.take k) = bk := ⟨_, rfl⟩
            have hEk := HEr.out
            rw [hxk, hbk] at hEk
            rw [hxk] at hnx hsd y1
            rw [hbk] at hb0
            have hnb : saidP ps ++ saidL mx xs (l.take (k + 1)) = bk ++ saidF mx xk l[k] := by rw [hsd, ← List.append_assoc, hbk]
            have HNX := Lib.hid hnx
            have HNB := Lib.hid hnb
            clear hcl hnx hsd hnb hxk hbk hrr HEr
            generalize l[k] = f at *
            have hE1 := hEk.next ((Below.refl wr.heap.size wr).alloc (Nat.le_refl _) (.cells #[.string ⟨f.1.toArray⟩, .string ⟨f.2.toArray⟩] 41))
            have hF1 : Blk (wr.alloc (.cells #[.string ⟨f.1.toArray⟩, .string ⟨f.2.toArray⟩] 41)) wr.heap.size 41 #[.string ⟨f.1.toArray⟩, .string ⟨f.2.toArray⟩] := Blk.new wr _ _
            have HE1 := Lib.hid hE1
            have HF1 := Lib.hid hF1
            clear hE1 hF1 hEk
            go_upto_region 25 with fail
            obtain ⟨F, hFF⟩ : ∃ F, wr.heap.size = F := ⟨_, rfl⟩
            obtain ⟨W1, hW1⟩ : ∃ W1, wr.alloc (.cells #[.string ⟨f.1.toArray⟩, .string ⟨f.2.toArray⟩] 41) = W1 := ⟨_, rfl⟩
            have HE1 := Lib.hid (show EncAt w W1 C g A Sv G xk mx bk qo by rw [← hW1]; exact HE1.out)
            have HF1 := Lib.hid (show Blk W1 F 41 #[.string ⟨f.1.toArray⟩, .string ⟨f.2.toArray⟩] by rw [← hW1, ← hFF]; exact HF1.out)
            rw [hW1, hFF]
            refine quiet_in (fun w' => EncAt w w' C g A Sv G xk mx bk qo ∧ Blk w' F 41 #[.string ⟨f.1.toArray⟩, .string ⟨f.2.toArray⟩]) (by kernel_rfl) (by kernel_rfl) ?_ fun hne => ?_
            · exact ⟨HE1.out.next ((Below.refl _ _).drew), HF1.out⟩
            have q0 : ∀ x : WIn (fun w' => EncAt w w' C g A Sv G xk mx bk qo ∧ Blk w' F 41 #[.string ⟨f.1.toArray⟩, .string ⟨f.2.toArray⟩]), x.w.cell? ⟨C, 0, none⟩ = some (.pointer (some ⟨g, 0, none⟩)) := fun x => x.h.1.cells.1
            have q1 : ∀ x : WIn (fun w' => EncAt w w' C g A Sv G xk mx bk qo ∧ Blk w' F 41 #[.string ⟨f.1.toArray⟩, .string ⟨f.2.toArray⟩]), x.w.cell? ⟨F, 0, none⟩ = some (.string ⟨f.1.toArray⟩) := fun x => x.h.2.cell 0
            have q2 : ∀ x : WIn (fun w' => EncAt w w' C g A Sv G xk mx bk qo ∧ Blk w' F 41 #[.string ⟨f.1.toArray⟩, .string ⟨f.2.toArray⟩]), x.w.cell? ⟨F, 1, none⟩ = some (.string ⟨f.2.toArray⟩) := fun x => x.h.2.cell 1
            repeat (first | go_big_quiet_skip | (go_big_quiet_want; go_big_quiet_op; go_big_quiet_on))
            go_big_quiet_want
            go_big_quiet_op
            refine ⟨_, fun x => quiet_call (enc_find x.h.1 f hfo) (fun e w9 h9 => ⟨h9.1, x.h.1.next h9.2, x.h.2.below h9.2 x.h.2.lt⟩), ?_⟩
            go_big_quiet_on
            repeat (first | go_big_quiet_skip | (go_big_quiet_want; go_big_quiet_op; go_big_quiet_on))
            refine wpQuiet_nil ?_
            intro w9 hw9
            have hC9 : EncAt w w9 C g A Sv G xk mx bk qo ∧ Blk w9 F 41 #[.string ⟨f.1.toArray⟩, .string ⟨f.2.toArray⟩] := by
              obtain ⟨x, hx⟩ := hw9
              rw [hx]
              exact x.h
            clear hne hw9 q0 q1 q2
            have HE9 := Lib.hid hC9.1
            have HF9 := Lib.hid hC9.2
            obtain ⟨p, hp⟩ : ∃ p, fnd (isF f) (tAll xk) = p := ⟨_, rfl⟩
            obtain ⟨q, hq⟩ : ∃ q, fnd (isN f) (tAll xk) = q := ⟨_, rfl⟩
            rw [hp, hq]
            have hpl2 : p ≤ 4096 := by have := fnd_le (isF f) (tAll xk); rw [tAll_len] at this; omega
            have hql2 : q ≤ 4096 := by have := fnd_le (isN f) (tAll xk); rw [tAll_len] at this; omega
            have HP := Lib.hid hp
            have HQ := Lib.hid hq
            clear hC9 hp hq e0 e1 hbr
            have hlf : (saidF mx xk f).length ≤ 5000 := saidF_len mx xk f (by omega)
            by_cases h0 : 0 < p
            · obtain ⟨hs, hn⟩ := saidF_yes (mx := mx) HP.out h0
              have i1 : (0 : Int) < ((p : Nat) : Int) := by omega
              have i2 := decide_eq_true h0
              have HS := Lib.hid hs
              have HN := Lib.hid hn
              have hbd : bk.length + (putL (p : Nat) 7 128).length ≤ 140737488355328 := by rw [← hs]; omega
              clear hs hn
              go_wp2_with fail
              refine (enc_num2 HE9.out _ 7 128 hbd).mono ?_
              rintro e w10 ⟨rfl, hE10, -⟩
              have HE10 := Lib.hid hE10
              clear hE10
              go_wp2_with fail
              go_roundg (gk - 1)
              case measure => omega
              case rel => exact ⟨k + 1, by omega, by go_num, by rw [HNX.out, HNB.out, HS.out, HN.out]; exact HE10.out⟩
            · have hp0 : p = 0 := by omega
              have i2 := decide_eq_false h0
              have i3 : ¬ (0 : Int) < ((p : Nat) : Int) := by omega
              have i4 := decide_eq_false i3
              have hbd : bk.length + (putL (q : Nat) 6 64).length ≤ 140737488355328 := by
                have := putL_len q 6 64 (by omega)
                omega
              have HP0 := Lib.hid hp0
              clear hp0
              go_wp2_with fail
              refine (enc_num2 HE9.out _ 6 64 hbd).mono ?_
              rintro e w10 ⟨rfl, hE10, hF10⟩
              have HE10 := Lib.hid hE10
              have HF10 := Lib.hid (hF10 F _ HF9.out)
              clear hE10 hF10 i2 i3 i4
              by_cases hq0 : q = 0
              · obtain ⟨hs, hn⟩ := saidF_all (mx := mx) HP.out HP0.out HQ.out hq0
                have i5 : ((q : Nat) : Int) = 0 := by omega
                have i6 : (((q : Nat) : Int) == 0) = true := by simpa using i5
                have i7 : (q == 0) = true := by simpa using hq0
                have HS := Lib.hid hs
                have HN := Lib.hid hn
                have hl1 := txtL_len f.1
                have hl2 := txtL_len f.2
                have hl6 := putL_len q 6 64 (by omega)
                have hbt : (bk ++ putL (q : Nat) 6 64).length + (txtL f.1).length ≤ 140737488355328 := by simp only [List.length_append]; omega
                have hbt2 : (bk ++ putL (q : Nat) 6 64 ++ txtL f.1).length + (txtL f.2).length ≤ 140737488355328 := by simp only [List.length_append]; omega
                have HQ0 := Lib.hid hq0
                clear hs hn hl1 hl2 hl6 hq0
                have r0 : w10.cell? ⟨F, 0, none⟩ = some (.string ⟨f.1.toArray⟩) := HF10.out.cell 0
                have r1 : w10.cell? ⟨F, 1, none⟩ = some (.string ⟨f.2.toArray⟩) := HF10.out.cell 1
                go_wp2_with fail
                refine (enc_text2 HE10.out f.1 hfo.1 hbt).mono ?_
                rintro e w11 ⟨rfl, hE11, hF11⟩
                have HE11 := Lib.hid hE11
                have HF11 := Lib.hid (hF11 F _ HF10.out)
                clear hE11 hF11 r0 r1 i5 i6 i7
                have r0 : w11.cell? ⟨F, 0, none⟩ = some (.string ⟨f.1.toArray⟩) := HF11.out.cell 0
                have r1 : w11.cell? ⟨F, 1, none⟩ = some (.string ⟨f.2.toArray⟩) := HF11.out.cell 1
                go_wp2_with fail
                refine (enc_text2 HE11.out f.2 hfo.2 hbt2).mono ?_
                rintro e w20 ⟨rfl, hE20, hF20⟩
                have HE20 := Lib.hid hE20
                have HF20 := Lib.hid (hF20 F _ HF11.out)
                clear hE20 hF20 r0 r1
                have r0 : w20.cell? ⟨F, 0, none⟩ = some (.string ⟨f.1.toArray⟩) := HF20.out.cell 0
                have r1 : w20.cell? ⟨F, 1, none⟩ = some (.string ⟨f.2.toArray⟩) := HF20.out.cell 1
                have r2 := HE20.out.cells.1
                go_upto_region 32 with fail
                go_still_tail 5, (by kernel_rfl)
                have HED := Lib.hid (HE20.out.next ((Below.refl _ w20).drew))
                change wpList _ _ _ _ _ w20.drew
                generalize w20.drew = w21 at *
                clear r0 r1 r2
                go_wp2_with fail
                refine (enc_add HED.out f hfo).mono ?_
                rintro e w22 ⟨⟨v, rfl⟩, hE22, -⟩
                have HE22 := Lib.hid hE22
                clear hE22
                go_wp2_with fail
                go_roundg (gk - 1)
                case measure => omega
                case rel => exact ⟨k + 1, by omega, by go_num, by rw [HNX.out, HNB.out, HS.out, HN.out]; have h := HE22.out; simp only [List.append_assoc] at h ⊢; exact h⟩
              · obtain ⟨hs, hn⟩ := saidF_lit (mx := mx) HP.out HP0.out HQ.out (by omega)
                have i5 : ¬ ((q : Nat) : Int) = 0 := by omega
                have i6 : (((q : Nat) : Int) == 0) = false := by simpa using i5
                have i7 : (q == 0) = false := by simpa using hq0
                have HS := Lib.hid hs
                have HN := Lib.hid hn
                have hl2 := txtL_len f.2
                have hl6 := putL_len q 6 64 (by omega)
                have hbt2 : (bk ++ putL (q : Nat) 6 64).length + (txtL f.2).length ≤ 140737488355328 := by simp only [List.length_append]; omega
                clear hs hn hl2 hl6
                have r0 : w10.cell? ⟨F, 0, none⟩ = some (.string ⟨f.1.toArray⟩) := HF10.out.cell 0
                have r1 : w10.cell? ⟨F, 1, none⟩ = some (.string ⟨f.2.toArray⟩) := HF10.out.cell 1
                go_wp2_with fail
                refine (enc_text2 HE10.out f.2 hfo.2 hbt2).mono ?_
                rintro e w20 ⟨rfl, hE20, hF20⟩
                have HE20 := Lib.hid hE20
                have HF20 := Lib.hid (hF20 F _ HF10.out)
                clear hE20 hF20 r0 r1
                have r0 : w20.cell? ⟨F, 0, none⟩ = some (.string ⟨f.1.toArray⟩) := HF20.out.cell 0
                have r1 : w20.cell? ⟨F, 1, none⟩ = some (.string ⟨f.2.toArray⟩) := HF20.out.cell 1
                have r2 := HE20.out.cells.1
                go_upto_region 32 with fail
                go_still_tail 5, (by kernel_rfl)
                have HED := Lib.hid (HE20.out.next ((Below.refl _ w20).drew))
                change wpList _ _ _ _ _ w20.drew
                generalize w20.drew = w21 at *
                clear r0 r1 r2
                go_wp2_with fail
                refine (enc_add HED.out f hfo).mono ?_
                rintro e w22 ⟨⟨v, rfl⟩, hE22, -⟩
                have HE22 := Lib.hid hE22
                clear hE22
                go_wp2_with fail
                go_roundg (gk - 1)
                case measure => omega
                case rel => exact ⟨k + 1, by omega, by go_num, by rw [HNX.out, HNB.out, HS.out, HN.out]; have h := HE22.out; simp only [List.append_assoc] at h ⊢; exact h⟩
          · have hke : l.take k = l := List.take_of_length_le (by omega)
            have hE := HEr.out
            rw [hke] at hE
            obtain ⟨A', c', v, h1, h2, h3, h4, h5, h6⟩ := hE
            obtain ⟨AV, cv, hv⟩ := own_slice h2.own
            have hcap : (saidP ps ++ saidL mx xs l).length ≤ cv := by
              rw [hv] at h2
              exact own_capW h2.own
            have hrd : Reads wr wr.heap.size 1 AV (saidP ps ++ saidL mx xs l).length (bs (saidP ps ++ saidL mx xs l)) := by
              rw [hv] at h2
              exact Reads.of_own h2.own
            have g0 : wr.cell? ⟨G, 0, none⟩ = some v := h2.blk.cell 0
            rw [hv] at g0
            have hfr : ∀ ad, AV = some ad → w.heap.size ≤ ad.block ∧ ad.block < wr.heap.size := fun ad e => ⟨h5 ad.block (.inr (by rw [hv, e]; rfl)), (h2.own.lt ad.block (by rw [hv, e]; rfl)).2⟩
            have HFR := Lib.hid hfr
            have hnot : ∀ ad, AV = some ad → ¬ oOwn C g A' (.slice none 0 0) ad.block := fun ad e => h6 ad.block (.inr (by rw [hv, e]; rfl))
            have hown : wr.ownsRow 0 5 1 (.slice AV (saidP ps ++ saidL mx xs l).length cv) (saidP ps ++ saidL mx xs l).length (bs (saidP ps ++ saidL mx xs l)) := by
              have := h2.own
              rw [hv] at this
              exact this
            have HEND := Lib.hid (show COut wr C g A' c' (.slice none 0 0) (nextL mx xs l) mx [] qo ∧ Keep (oOwn C g A Sv) w wr ∧ (∀ k, oOwn C g A' (.slice none 0 0) k → oOwn C g A Sv k ∨ w.heap.size ≤ k) ∧ (∀ ad, AV = some ad → ¬ oOwn C g A' (.slice none 0 0) ad.block) ∧ wr.ownsRow 0 5 1 (.slice AV (saidP ps ++ saidL mx xs l).length cv) (saidP ps ++ saidL mx xs l).length (bs (saidP ps ++ saidL mx xs l)) from ⟨h1, h3, h4, hnot, hown⟩)
            clear hnot hown
            have HRD := Lib.hid hrd
            clear h1 h2 h3 h4 h5 h6 hrd hv hke HEr hfr
            go_wp2
            go_ret2
            rw [← List.length_append]
            exact ⟨AV, _, cv, rfl, rfl, hcap, HRD.out, HFR.out, A', c', HEND.out⟩
end Go.Proofs.YtbgnggkgmeagkaaGreatDoor
