/-
  The reference's coder: Encode. Condition: the fields' texts' lengths; the list lies below the coder's own blocks.
-/
import Derived.Test.YtkbbkamnmdeagaaDoorRC1
import Derived.Test.YtkbbkamnmdeagaaDoorMHeadPlays14
import Derived.Test.YtkbbkamnmdeagaaDoorHenc2
import Derived.Test.YtkbbkamnmdeagaaDoorMHeadPlays19
import Derived.Test.YtkbbkamnmdeagaaDoorMHeadPlays18
import Derived.Deep.CutRange
import Derived.Deep.CutBlock
import Derived.Deep.LoopGhost
import Derived.StillTailTactics
namespace Go.Proofs.YtkbbkamnmdeagaaDoor
open Go.RowKit
attribute [local go_sem ↓] Go.wp_at_zero Go.wp_at_succ

theorem rput_gave (n bits first : Int) (w : World) :
    Calls Tryd.prog 18 #[.int .i64 n, .int .i64 bits, .int .i64 first] w fun e w' => ∃ A c, e = .returned (.tuple #[.slice A (putL n bits first).length c, .int .i64 (putE n bits first : Nat)]) ∧ Reads w' w'.heap.size 1 A (putL n bits first).length (bs (putL n bits first)) ∧ Below w.heap.size w w' := by
  refine (rput_any n bits first w).mono ?_
  rintro e w' ⟨v, he, hown, hb⟩
  obtain ⟨A, c, rfl, hg⟩ := gave_of_own hown hb
  exact ⟨A, c, he, hg.2.1, hb⟩
/-- Where Encode's loop stands: the coder, the bytes so far. -/
def REncAt (w wr : World) (M : Nat) (Sv : Value) (A0 : Option Addr) (v : Value) (xs : List Fld) (mx max : Nat) (b : List UInt8) : Prop :=
  ∃ A' c', ROut wr M A' c' (.slice none 0 0) xs mx [] max ∧ wr.ownsRow w.heap.size 5 1 v b.length (bs b) ∧ Keep (rOwn M Sv) w wr ∧ M < w.heap.size ∧ ∀ a, A' = some a → v.ownBlock ≠ some a.block ∧ ((∃ a0, A0 = some a0 ∧ a0.block = a.block) ∨ w.heap.size ≤ a.block)
section
variable {w wr w1 w2 : World} {M c mx max : Nat} {A A0 : Option Addr} {Sv v v2 : Value} {xs : List Fld} {ps : List Nat} {b x : List UInt8}
theorem REncAt.next (h : REncAt w wr M Sv A0 v xs mx max b) (hb : Below wr.heap.size wr w1) : REncAt w w1 M Sv A0 v xs mx max b := by
  obtain ⟨A', c', h1, h2, h3, h4, h5⟩ := h
  exact ⟨A', c', h1.below hb, own_behindW h2 hb, h3.trans (Keep.of_below (S := fun _ => False) hb) (fun i hi => hi.elim), h4, h5⟩
theorem REncAt.size (h : REncAt w wr M Sv A0 v xs mx max b) : w.heap.size ≤ wr.heap.size ∧ xs.length ≤ 128 ∧ wt xs ≤ 4096 ∧ M < wr.heap.size := by
  obtain ⟨A', c', h1, h2, h3, h4, h5⟩ := h
  exact ⟨h3.size, h1.tab.len, h1.tab.wt, h1.tab.blk.lt⟩
theorem REncAt.row (h : REncAt w wr M Sv A0 v xs mx max b) : wr.ownsRow w.heap.size 5 1 v b.length (bs b) := by
  obtain ⟨A', c', h1, h2, h3, h4, h5⟩ := h
  exact h2
theorem renc_cell (h : REncAt w wr M Sv A0 v xs mx max b) {p : Addr} {u : Value} (hp : w.cell? p = some u) (hn : ¬ rOwn M Sv p.block) : wr.cell? p = some u := by
  obtain ⟨A', c', h1, h2, h3, h4, h5⟩ := h
  exact (World.cell?_of_block (h3.block p.block (World.block_lt_of_cell? _ _ hp) hn)).trans hp
theorem renc_push (h : REncAt w wr M Sv A0 v xs mx max b) (hown2 : w2.ownsRow w.heap.size 5 1 v2 (b.length + x.length) (bs b ++ bs x)) (hg2 : wr.grownBy w2 v.ownBlock) (hv : v2.ownBlock = v.ownBlock ∨ v2.ownBlock = some wr.heap.size) : REncAt w w2 M Sv A0 v2 xs mx max (b ++ x) := by
  obtain ⟨A', c', h1, h2, h3, h4, h5⟩ := h
  have hk : Keep (fun k => v.ownBlock = some k) wr w2 := (Keep.refl (fun k => v.ownBlock = some k) wr).grown hg2 fun k hk => .inl hk
  have hvw : ∀ k, v.ownBlock = some k → w.heap.size ≤ k := fun k hk => (h2.lt k hk).1
  rw [← List.length_append, ← bs_append] at hown2
  refine ⟨A', c', h1.keep hk (fun k hk1 he => ?_) (fun a ha => (h5 a ha).1), hown2, h3.trans hk fun i hi => .inr (hvw i hi), h4, fun a ha => ⟨?_, (h5 a ha).2⟩⟩
  · rcases hk1 with rfl | hk1
    · have := hvw _ he
      omega
    · simp [Value.ownBlock] at hk1
  · rcases hv with e | e
    · rw [e]
      exact (h5 a ha).1
    · rw [e]
      intro e2
      have := (h1.da a ha).2
      injection e2 with e2
      omega
theorem renc_start (H : ROut w M A c Sv xs mx ps max) (hb : Below w.heap.size w wr) (hrow : wr.ownsRow w.heap.size 5 1 v b.length (bs b)) : REncAt w (wr.setCell ⟨M, 5, none⟩ (.slice none 0 0)) M Sv A v xs mx max b ∧ wr.cell? ⟨M, 5, none⟩ = some Sv ∧ wr.frozen? ⟨M, 5, none⟩ = false ∧ M < wr.heap.size := by
  have h1 := H.below hb
  have hM := H.tab.blk.lt
  have k3 : Keep (fun k => k = M) wr (wr.setCell ⟨M, 5, none⟩ (.slice none 0 0)) := (Keep.refl (fun k => k = M) wr).setCell (p := ⟨M, 5, none⟩) (.inl rfl) _
  have hvM : v.ownBlock ≠ some M := fun e => by have := (hrow.lt M e).1; omega
  refine ⟨⟨A, c, ⟨h1.tab.put 5 _ (by omega) (by omega) (fun s e => by cases e), World.ownsRow_nil _ _ _ _, fun a ha => ⟨by simp [Value.ownBlock], by have := (h1.da a ha).2; simpa using this⟩⟩, ownRow_keep hrow k3 fun k hk he => hvM (he ▸ hk), (Keep.of_below (S := rOwn M Sv) hb).trans k3 fun i hi => .inl (.inl hi), hM, fun a ha => ⟨fun e => ?_, .inl ⟨a, ha, rfl⟩⟩⟩, h1.tab.blk.cell 5, h1.tab.blk.frozen 5, h1.tab.blk.lt⟩
  have e1 := (hrow.lt _ e).1
  have e2 := (H.da a ha).2
  omega
theorem renc_start0 (H : ROut w M A c (.slice none 0 0) xs mx [] max) (hb : Below w.heap.size w wr) : REncAt w wr M (.slice none 0 0) A (.slice none 0 0) xs mx max [] := by
  have h1 := H.below hb
  exact ⟨A, c, h1, World.ownsRow_nil _ _ _ _, Keep.of_below hb, H.tab.blk.lt, fun a ha => ⟨by simp [Value.ownBlock], .inl ⟨a, ha, rfl⟩⟩⟩
theorem renc_find (h : REncAt w wr M Sv A0 v xs mx max b) (f : Fld) (hf : fOk f) :
    Calls Tryd.prog 50 #[.pointer (some ⟨M, 0, none⟩), .agg #[.string ⟨f.1.toArray⟩, .string ⟨f.2.toArray⟩]] wr fun e w' =>
      e = .returned (.tuple #[.int .i64 ((fnd (isF f) (tAll xs) : Nat) : Int), .int .i64 ((fnd (isN f) (tAll xs) : Nat) : Int)]) ∧ Below wr.heap.size wr w' := by
  obtain ⟨A', c', h1, h2, h3, h4, h5⟩ := h
  exact cfind_any h1.tab f hf
theorem renc_add (h : REncAt w wr M Sv A0 v xs mx max b) (f : Fld) (hf : fOk f) :
    Calls Tryd.prog 46 #[.pointer (some ⟨M, 0, none⟩), .agg #[.string ⟨f.1.toArray⟩, .string ⟨f.2.toArray⟩]] wr fun e w' => (∃ u, e = .returned u) ∧ REncAt w w' M Sv A0 v (tAdd mx xs f) mx max b := by
  obtain ⟨A', c', h1, h2, h3, h4, h5⟩ := h
  refine (cadd_any h1.tab f hf).mono ?_
  rintro e w' ⟨he, A2, c2, h7, h8, h9⟩
  refine ⟨⟨_, he⟩, A2, c2, ⟨h7, World.ownsRow_nil _ _ _ _, fun a ha => ⟨by simp [Value.ownBlock], (h9 a ha).2⟩⟩, ownRow_keep h2 h8 fun k hk he => ?_, h3.trans h8 fun i hi => .inl (.inl hi), h4, fun a ha => ⟨fun e => ?_, .inr (Nat.le_trans h3.size (h9 a ha).1)⟩⟩
  · have := (h2.lt k hk).1
    omega
  · have e1 := (h2.lt _ e).2
    have e2 := (h9 a ha).1
    omega
end
/-- The cells that Encode reads of the sizes. -/
theorem ro_sizes {w : World} {M c mx max : Nat} {A : Option Addr} {Sv : Value} {xs : List Fld} {ps : List Nat} (H : ROut w M A c Sv xs mx ps max) : (∃ SA sc, Sv = .slice SA ps.length sc) ∧ (ps ≠ [] → ∃ q cap, Sv = .slice (some ⟨q, 0, none⟩) ps.length cap ∧ q < w.heap.size ∧ ∀ k (hk : k < ps.length), w.cell? ⟨q, k, none⟩ = some (.int .i64 ((ps[k] : Nat) : Int))) := by
  have hr := H.row
  refine ⟨own_slice hr, fun hne => ?_⟩
  obtain ⟨n, hn⟩ : ∃ n, ps.length = n + 1 := ⟨ps.length - 1, by have := List.length_pos_iff.2 hne; omega⟩
  have hr2 := hr
  rw [hn] at hr2
  obtain ⟨q, cap, rfl⟩ := row_succ hr2
  refine ⟨q, cap, by rw [hn], (hr.lt q rfl).2, fun k hk => ?_⟩
  have hc := hr.cells (g := q) rfl k _ (szs_at ps k hk)
  rw [Addr.add_lit, Nat.zero_add] at hc
  exact hc
/-- What Encode leaves of the coder. -/
def REncDone (w w' : World) (M : Nat) (A : Option Addr) (Sv : Value) (xs' : List Fld) (mx max : Nat) : Prop :=
  ∃ A2 c2, ROut w' M A2 c2 (.slice none 0 0) xs' mx [] max ∧ Keep (rOwn M Sv) w w' ∧ ∀ a, A2 = some a → (∃ a0, A = some a0 ∧ a0.block = a.block) ∨ w.heap.size ≤ a.block
theorem rput_low {n : Nat} (h : n ≤ 4096) : (putL (n : Nat) 5 32).length ≤ 1000 ∧ (putL (n : Nat) 7 128).length ≤ 1000 ∧ (putL (n : Nat) 6 64).length ≤ 1000 := ⟨putL_len n 5 32 (by omega), putL_len n 7 128 (by omega), putL_len n 6 64 (by omega)⟩

set_option maxRecDepth 100000 in
set_option maxHeartbeats 4000000 in
theorem rencC_much (M : Nat) (l : List Fld) (hf : ∀ f ∈ l, fOk f) (hm : l.length ≤ 140737488355328) (hE : tooMuch l = true) (LA : Option Addr) (n lc : Nat) (hn : n = l.length) (w : World) (hr : Reads w w.heap.size 2 LA l.length (fvs l)) :
    Calls Tryd.prog 61 #[.pointer (some ⟨M, 0, none⟩), .slice LA n lc] w fun e w' => e = .returned (.tuple #[.slice none 0 0, .int .i64 4]) ∧ Below w.heap.size w w' := by
  subst hn
  by_cases h40 : 40 < l.length
  · have i1 : (40 : Int) < ((l.length : Nat) : Int) := by omega
    have i2 := decide_eq_true i1
    clear hE hr
    go_enter Tryd.func61, Tryd.ntmps61
    go_wp2
    go_ret2
    exact ⟨rfl, Below.refl _ _⟩
  · have hw : 2000 < wt l := by simpa [tooMuch, h40] using hE
    have i1 : ¬ (40 : Int) < ((l.length : Nat) : Int) := by omega
    have i2 := decide_eq_false i1
    have hws := wt_small hf (by omega)
    obtain ⟨W, hW⟩ : ∃ W, wt l = W := ⟨_, rfl⟩
    have HWT := Lib.hid (rweightW_any l hf hm LA _ lc rfl w hr)
    rw [hW, wrap_smallN (by omega)] at HWT
    rw [hW] at hw hws
    have i3 : (2000 : Int) < ((W : Nat) : Int) := by omega
    have i4 := decide_eq_true i3
    clear hE hr hW
    go_enter Tryd.func61, Tryd.ntmps61
    go_wp2_with fail
    refine HWT.out.mono ?_
    rintro e w1 ⟨rfl, hb1⟩
    have HB1 := Lib.hid hb1
    clear hb1
    go_wp2
    go_ret2
    exact ⟨rfl, HB1.out⟩
set_option maxRecDepth 100000 in
set_option maxHeartbeats 4000000 in
theorem rencC_long (M : Nat) (l : List Fld) (hf : ∀ f ∈ l, fOk f) (hm : l.length ≤ 140737488355328) (hE0 : tooMuch l = false) (hE : tooLong l = true) (LA : Option Addr) (n lc : Nat) (hn : n = l.length) (w : World) (hr : Reads w w.heap.size 2 LA l.length (fvs l)) :
    Calls Tryd.prog 61 #[.pointer (some ⟨M, 0, none⟩), .slice LA n lc] w fun e w' => e = .returned (.tuple #[.slice none 0 0, .int .i64 4]) ∧ Below w.heap.size w w' := by
  subst hn
  have h40 : l.length ≤ 40 ∧ wt l ≤ 2000 := by
    simp only [tooMuch, Bool.or_eq_false_iff, decide_eq_false_iff_not] at hE0
    omega
  have i1 : ¬ (40 : Int) < ((l.length : Nat) : Int) := by omega
  have i2 := decide_eq_false i1
  obtain ⟨W, hW⟩ : ∃ W, wt l = W := ⟨_, rfl⟩
  have HWT := Lib.hid (rweightW_any l hf hm LA _ lc rfl w hr)
  rw [hW, wrap_smallN (by omega)] at HWT
  rw [hW] at h40
  have i3 : ¬ (2000 : Int) < ((W : Nat) : Int) := by omega
  have i4 := decide_eq_false i3
  have HR := Lib.hid hr
  have HE := Lib.hid hE
  clear hr hW hE hE0
  go_enter Tryd.func61, Tryd.ntmps61
  go_wp2_with fail
  refine HWT.out.mono ?_
  rintro e w1 ⟨rfl, hb1⟩
  have HB1 := Lib.hid hb1
  clear hb1
  go_wp2_with fail
  go_loopg [6] l.length (fun n i wr => ∃ k : Nat, n + k = l.length ∧ i = .int .i64 (k : Int) ∧ Hid (tooLong (l.take k) = false) ∧ wr = w1)
  case atStart => exact ⟨0, rfl, rfl, rfl, rfl⟩
  case round =>
    obtain ⟨k, hk, rfl, HT, rfl⟩ := hrel
    by_cases hlt : k < l.length
    · have htk := tooLong_take l k hlt
      obtain ⟨b, off, rfl, hbB, hcl⟩ := reads_fld (HR.out.below HB1.out) (by omega)
      obtain ⟨e0, e1⟩ := hcl k hlt
      have HTK := Lib.hid htk
      clear hcl htk
      generalize l[k] = f at *
      by_cases g1 : 400 < f.1.length
      · obtain ⟨j1, j2⟩ := len_gt g1
        go_wp2
        go_ret2
        exact ⟨rfl, HB1.out⟩
      · obtain ⟨j1, j2⟩ := len_le (show f.1.length ≤ 400 by omega)
        by_cases g2 : 400 < f.2.length
        · obtain ⟨j3, j4⟩ := len_gt g2
          go_wp2
          go_ret2
          exact ⟨rfl, HB1.out⟩
        · obtain ⟨j3, j4⟩ := len_le (show f.2.length ≤ 400 by omega)
          have HTN := Lib.hid (show tooLong (l.take (k + 1)) = false by rw [HTK.out, HT.out]; simp [g1, g2])
          go_wp2
          go_roundg (gk - 1)
          case measure => omega
          case rel => exact ⟨k + 1, by omega, by go_num, HTN, rfl⟩
    · have hke : l.take k = l := List.take_of_length_le (by omega)
      have h1 := HT.out
      rw [hke, HE.out] at h1
      cases h1
theorem rencC_fault (M : Nat) (l : List Fld) (hf : ∀ f ∈ l, fOk f) (hm : l.length ≤ 140737488355328) (hE : saidE l ≠ 0) (LA : Option Addr) (n lc : Nat) (hn : n = l.length) (w : World) (hr : Reads w w.heap.size 2 LA l.length (fvs l)) :
    Calls Tryd.prog 61 #[.pointer (some ⟨M, 0, none⟩), .slice LA n lc] w fun e w' => e = .returned (.tuple #[.slice none 0 0, .int .i64 4]) ∧ Below w.heap.size w w' := by
  cases h1 : tooMuch l with
  | true => exact rencC_much M l hf hm h1 LA n lc hn w hr
  | false =>
    cases h2 : tooLong l with
    | true => exact rencC_long M l hf hm h1 h2 LA n lc hn w hr
    | false => exact absurd (by simp [saidE, h1, h2]) hE

set_option maxRecDepth 100000 in
set_option maxHeartbeats 16000000 in
theorem rencC_fine {w : World} {M c mx max : Nat} {A : Option Addr} {Sv : Value} {xs : List Fld} {ps : List Nat} (H : ROut w M A c Sv xs mx ps max) (hps : ∀ p ∈ ps, p ≤ 4096) (hSv : ps = [] → Sv = .slice none 0 0) (hpl : ps.length ≤ 1000000) (l : List Fld) (hf : ∀ f ∈ l, fOk f) (hm : l.length ≤ 140737488355328) (hE : saidE l = 0)
    (LA : Option Addr) (n lc : Nat) (hn : n = l.length) (hr : Reads w w.heap.size 2 LA l.length (fvs l)) (hBl : ∀ ad, LA = some ad → 0 < l.length → ¬ rOwn M Sv ad.block) :
    Calls Tryd.prog 61 #[.pointer (some ⟨M, 0, none⟩), .slice LA n lc] w fun e w' => ∃ A' n' c', e = .returned (.tuple #[.slice A' n' c', .int .i64 0]) ∧ n' = (saidP ps ++ saidL mx xs l).length ∧ n' ≤ c' ∧ Reads w' w'.heap.size 1 A' n' (bs (saidP ps ++ saidL mx xs l)) ∧ (∀ ad, A' = some ad → w.heap.size ≤ ad.block ∧ ad.block < w'.heap.size) ∧ REncDone w w' M A Sv (nextL mx xs l) mx max := by
  subst hn
  obtain ⟨i0, hi, hz0, hz1, hz2⟩ := info_parts u8_info
  have HI := Lib.hid hi
  have HZ0 := Lib.hid hz0
  have HZ1 := Lib.hid hz1
  have HZ2 := Lib.hid hz2
  have hE1 : tooMuch l = false ∧ tooLong l = false := by
    unfold saidE at hE
    split at hE
    · cases hE
    · rename_i h
      simpa using h
  have h40 : l.length ≤ 40 ∧ wt l ≤ 2000 := by
    have h := hE1.1
    simp only [tooMuch, Bool.or_eq_false_iff, decide_eq_false_iff_not] at h
    omega
  have i1 : ¬ (40 : Int) < ((l.length : Nat) : Int) := by omega
  have i2 := decide_eq_false i1
  obtain ⟨W, hW⟩ : ∃ W, wt l = W := ⟨_, rfl⟩
  have HWT := Lib.hid (rweightW_any l hf hm LA _ lc rfl w hr)
  rw [hW, wrap_smallN (by omega)] at HWT
  rw [hW] at h40
  have i3 : ¬ (2000 : Int) < ((W : Nat) : Int) := by omega
  have i4 := decide_eq_false i3
  have HL1 := Lib.hid (tooLong_each hE1.2)
  have HR := Lib.hid hr
  have HH := Lib.hid H
  have HPS := Lib.hid hps
  have HSV := Lib.hid hSv
  have HBL := Lib.hid hBl
  have hlen40 := h40.1
  clear hE hE1 hps hSv hBl H hW hr hi hz0 hz1 hz2
  go_enter Tryd.func61, Tryd.ntmps61
  go_wp2_with fail
  refine HWT.out.mono ?_
  rintro e w1 ⟨rfl, hb1⟩
  have HB1 := Lib.hid hb1
  clear hb1 HWT
  go_wp2_with fail
  clear i1 i2 i3 i4 h40
  go_loopg [6] l.length (fun n i wr => ∃ k : Nat, n + k = l.length ∧ i = .int .i64 (k : Int) ∧ wr = w1)
  case atStart => exact ⟨0, rfl, rfl, rfl⟩
  case round =>
    obtain ⟨k, hk, rfl, rfl⟩ := hrel
    by_cases hlt : k < l.length
    · obtain ⟨b, off, rfl, hbB, hcl⟩ := reads_fld (HR.out.below HB1.out) (by omega)
      obtain ⟨e0, e1⟩ := hcl k hlt
      obtain ⟨g1, g2⟩ := HL1.out l[k] (List.getElem_mem hlt)
      clear hcl
      generalize l[k] = f at *
      obtain ⟨j1, j2⟩ := len_le g1
      obtain ⟨j3, j4⟩ := len_le g2
      clear g1 g2
      go_wp2
      go_roundg (gk - 1)
      case measure => omega
      case rel => exact ⟨k + 1, by omega, by go_num, rfl⟩
    · generalize wr = w1 at *
      have hro := HH.out.below HB1.out
      obtain ⟨c0, c1, c5, ff, fl⟩ := hro.cells
      obtain ⟨⟨SA, sc, hsv⟩, hzs⟩ := ro_sizes hro
      have ZS := Lib.hid hzs
      have HSVE := Lib.hid hsv
      rw [hsv] at c5
      clear hro hzs hsv ff c0 c1
      go_upto_if 55 with fail
      clear hlt hk
      go_cut [7] from 8 to 120 (fun v wx => REncAt w wx M Sv A v xs mx max (saidP ps))
      case first => as_aux_lemma =>
        cases ps with
        | nil =>
          have hs0 : Sv = .slice none 0 0 := by first | exact HSV.out rfl | exact HSV.out trivial
          have hfin : REncAt w w1 M Sv A (.slice none 0 0) xs mx max (saidP []) := by
            have h := HH.out
            rw [hs0] at h ⊢
            exact renc_start0 h HB1.out
          have HFIN := Lib.hid hfin
          clear hfin hs0
          go_wp2
          go_meet
          exact HFIN.out
        | cons p r =>
          obtain ⟨q, cap, hq1, hq2, hq3⟩ := ZS.out (by simp)
          have hq4 := HSVE.out.symm.trans hq1
          injection hq4 with hq5 hq6 hq7
          subst hq5
          subst hq7
          obtain ⟨n, hn⟩ : ∃ n, (p :: r).length = n := ⟨_, rfl⟩
          have hn1 : 0 < n := by rw [← hn]; simp
          have x0 : w1.cell? ⟨q, 0, none⟩ = some (.int .i64 ((p : Nat) : Int)) := hq3 0 (by simp)
          have xl := hq3 (n - 1) (by omega)
          have hlast : (p :: r)[n - 1]'(by omega) = (p :: r).getLast (by simp) := by rw [List.getLast_eq_getElem]; simp [hn]
          rw [hlast] at xl
          obtain ⟨z, hz⟩ : ∃ z, (p :: r).getLast (by simp) = z := ⟨_, rfl⟩
          rw [hz] at xl
          rw [hn] at c5 hpl ⊢
          have hnw : wrap64 (((n : Nat) : Int) - 1) = ((n - 1 : Nat) : Int) := by
            unfold wrap64
            omega
          have hz4 : z ≤ 4096 := by rw [← hz]; exact HPS.out _ (List.getLast_mem _)
          have HX := Lib.hid (And.intro hn (And.intro hz hq3))
          have hni : (0 : Int) < ((n : Nat) : Int) := by omega
          have hnd := decide_eq_true hni
          have HNW := Lib.hid hnw
          have XL := Lib.hid xl
          clear hn hz hq3 hlast hq6 hq1 hnw xl ZS HSVE
          rw [show decide (0 < n) = true from decide_eq_true hn1]
          go_wp2_with fail
          go_loopg [8, 9] n (fun n' m i wr => ∃ k : Nat, n' + k = n ∧ i = .int .i64 (k : Int) ∧ m = .int .i64 ((leastK p r k : Nat) : Int) ∧ wr = w1)
          case atStart => exact ⟨0, rfl, rfl, rfl, rfl⟩
          case round =>
            obtain ⟨k, hk, rfl, rfl, rfl⟩ := hrel
            by_cases hlt : k < n
            · have xk := HX.out.2.2 k (by rw [HX.out.1]; exact hlt)
              have hsu := leastK_succ p r k (by rw [HX.out.1]; exact hlt)
              obtain ⟨y, hy⟩ : ∃ y, (p :: r)[k]'(by rw [HX.out.1]; exact hlt) = y := ⟨_, rfl⟩
              rw [hy] at xk hsu
              obtain ⟨m, hm'⟩ : ∃ m, leastK p r k = m := ⟨_, rfl⟩
              rw [hm'] at hsu ⊢
              have HSU := Lib.hid hsu
              clear hy hm' hsu x0
              by_cases hym : y < m
              · have j1 : ((y : Nat) : Int) < ((m : Nat) : Int) := by omega
                have j2 := decide_eq_true j1
                have HMN := Lib.hid (show leastK p r (k + 1) = y by rw [HSU.out]; omega)
                go_wp2
                go_roundg (gk - 1)
                case measure => omega
                case rel => exact ⟨k + 1, by omega, by go_num, by rw [HMN.out], rfl⟩
              · have j1 : ¬ ((y : Nat) : Int) < ((m : Nat) : Int) := by omega
                have j2 := decide_eq_false j1
                have HMN := Lib.hid (show leastK p r (k + 1) = m by rw [HSU.out]; omega)
                go_wp2
                go_roundg (gk - 1)
                case measure => omega
                case rel => exact ⟨k + 1, by omega, by go_num, by rw [HMN.out], rfl⟩
            · generalize wr = w1 at *
              have hkn : k = n := by omega
              obtain ⟨m, hm'⟩ : ∃ m, leastK p r k = m := ⟨_, rfl⟩
              have hmP : m = leastP p r := by rw [← hm', hkn, ← HX.out.1, leastK_all]
              have hm4 : m ≤ 4096 := by
                have h1 := (leastP_le r p).1
                have h2 := HPS.out p (by simp)
                omega
              rw [hm']
              have HMP := Lib.hid hmP
              have xl := XL.out
              have hnw := HNW.out
              obtain ⟨hb1, hb2, hb3⟩ := rput_low hm4
              obtain ⟨hb4, hb5, hb6⟩ := rput_low hz4
              have hni1 : (0 : Int) ≤ ((n - 1 : Nat) : Int) := by omega
              have hni2 : ((n - 1 : Nat) : Int) < ((n : Nat) : Int) := by omega
              clear hm' hmP x0
              go_upto_region 16 with fail
              go_quiet (fail)
              have HB2 := Lib.hid (HB1.out.trans (show Below w.heap.size w1 (w1.drewN nq) from ⟨rfl, rfl, rfl, Nat.le_refl _, fun _ _ => rfl⟩))
              clear xl hnw hni1 hni2 c5 fl hq2
              generalize w1.drewN nq = w2 at *
              go_wp2_with fail
              refine (rput_gave ((m : Nat) : Int) 5 32 w2).mono ?_
              rintro e w3 ⟨A3, c3, rfl, hr3, hb3'⟩
              have HB3 := Lib.hid (HB2.out.trans (hb3'.mono HB2.out.size))
              have HR3 := Lib.hid hr3
              have HS3 := Lib.hid HB3.out.size
              have HNIL := Lib.hid (World.ownsRow_nil w3 w.heap.size 5 1)
              clear hr3 hb3'
              go_upto_region 19 with (at_builtin; refine wpList_append_any _ rfl _ _ 22 rfl w.heap.size 5 i0 (.int .u8 0) 1 1 Tryd.underlying22 HI.out HZ0.out HZ1.out HZ2.out rfl (by decide) _ _ _ rfl HNIL.out w3.heap.size A3 (putL ((m : Nat) : Int) 5 32).length c3 (bs (putL ((m : Nat) : Int) 5 32)) rfl HR3.out (bs_one _) (by unfold maxLen; omega) (by omega) HS3.out ?_; intro v4 w4 hown4 hg4 _; have HB4 := Lib.hid (below_append HB3.out HNIL.out hg4 HS3.out); rw [Nat.zero_add, List.nil_append] at hown4; have HO4 := Lib.hid hown4; clear hown4 hg4)
              by_cases hmz : m < z
              · have j1 : ((m : Nat) : Int) < ((z : Nat) : Int) := by omega
                have j2 := decide_eq_true j1
                go_wp2_with fail
                refine (rput_gave ((z : Nat) : Int) 5 32 w4).mono ?_
                rintro e w5 ⟨A5, c5', rfl, hr5, hb5'⟩
                have HB5 := Lib.hid (HB4.out.trans (hb5'.mono HB4.out.size))
                have HR5 := Lib.hid hr5
                have HS5 := Lib.hid HB5.out.size
                have HO5 := Lib.hid (own_behindW HO4.out hb5')
                clear hr5 hb5'
                go_upto_region 22 with (at_builtin; refine wpList_append_any _ rfl _ _ 22 rfl w.heap.size 5 i0 (.int .u8 0) 1 1 Tryd.underlying22 HI.out HZ0.out HZ1.out HZ2.out rfl (by decide) _ _ _ rfl HO5.out w5.heap.size A5 (putL ((z : Nat) : Int) 5 32).length c5' (bs (putL ((z : Nat) : Int) 5 32)) rfl HR5.out (bs_one _) (by unfold maxLen; omega) (by omega) HS5.out ?_; intro v6 w6 hown6 hg6 _; have HB6 := Lib.hid (below_append HB5.out HO5.out hg6 HS5.out); rw [← List.length_append, ← bs_append] at hown6; have HO6 := Lib.hid hown6; clear hown6 hg6)
                obtain ⟨hE, s3, f3, l3⟩ := renc_start HH.out HB6.out HO6.out
                have HEA := Lib.hid hE
                clear hE
                go_wp2
                go_meet
                have h := HEA.out
                rw [saidP_yes HX.out.2.1 HMP.out hmz]
                exact h
              · have j1 : ¬ ((m : Nat) : Int) < ((z : Nat) : Int) := by omega
                have j2 := decide_eq_false j1
                obtain ⟨hE, s3, f3, l3⟩ := renc_start HH.out HB4.out HO4.out
                have HEA := Lib.hid hE
                clear hE
                go_wp2
                go_meet
                have h := HEA.out
                rw [saidP_no HX.out.2.1 HMP.out hmz]
                exact h
      case rest =>
        have hxl : wt xs ≤ 4096 ∧ mx ≤ 4096 := ⟨HH.out.tab.wt, HH.out.tab.mx⟩
        have hbl : ∀ k, (saidP ps ++ saidL mx xs (l.take k)).length ≤ 202000 := fun k => by
          have h1 := saidL_len mx hxl.2 (l.take k) xs hxl.1
          have h2 := saidP_len ps HPS.out
          rw [List.length_append]
          have h3 : (l.take k).length ≤ 40 := by rw [List.length_take]; omega
          omega
        have HBL2 := Lib.hid hbl
        have HCUT := Lib.hid hcut
        clear hbl hxl hcut ZS HSVE c5 fl
        go_wp2_with fail
        go_loopg [7, 13] l.length (fun n v i wr => ∃ k : Nat, n + k = l.length ∧ i = .int .i64 (k : Int) ∧ Hid (REncAt w wr M Sv A v (nextL mx xs (l.take k)) mx max (saidP ps ++ saidL mx xs (l.take k))))
        case atStart => exact ⟨0, rfl, rfl, by simpa [nextL, saidL, Hid] using HCUT.out⟩
        case round =>
          obtain ⟨k, hk, rfl, HEr⟩ := hrel
          by_cases hlt : k < l.length
          · obtain ⟨b, off, hLA, hbB, hcl⟩ := reads_fld HR.out (by omega)
            subst hLA
            have hnb := HBL.out _ rfl (by omega)
            obtain ⟨e0, e1⟩ := hcl k hlt
            have hnx := nextL_take mx xs l k hlt
            have hsd := saidL_take mx xs l k hlt
            have hfo := hf l[k] (List.getElem_mem hlt)
            have hb0 := HBL2.out k
            obtain ⟨xk, hxk⟩ : ∃ xk, nextL mx xs (l.take k) = xk := ⟨_, rfl⟩
            obtain ⟨bk, hbk⟩ : ∃ bk, saidP ps ++ saidL mx xs (l.take k) = bk := ⟨_, rfl⟩
            have hEk := HEr.out
            rw [hxk, hbk] at hEk
            rw [hxk] at hnx hsd
            rw [hbk] at hb0
            have hnbk : saidP ps ++ saidL mx xs (l.take (k + 1)) = bk ++ saidF mx xk l[k] := by rw [hsd, ← List.append_assoc, hbk]
            have HNX := Lib.hid hnx
            have HNB := Lib.hid hnbk
            obtain ⟨-, hx128, -, hMl⟩ := hEk.size
            clear hcl hnx hsd hnbk hxk hbk HEr
            generalize l[k] = f at *
            have HE1 := Lib.hid hEk
            have HC := Lib.hid (show ∀ wx vx xx bx, REncAt w wx M Sv A vx xx mx max bx → wx.cell? ⟨b, off + k * 2, none⟩ = some (.string ⟨f.1.toArray⟩) ∧ wx.cell? ⟨b, off + k * 2 + 1, none⟩ = some (.string ⟨f.2.toArray⟩) ∧ b < wx.heap.size from fun wx vx xx bx h => ⟨renc_cell h e0 hnb, renc_cell h e1 hnb, Nat.lt_of_lt_of_le hbB h.size.1⟩)
            clear hEk e0 e1 hnb hbB
            obtain ⟨e0, e1, hbr⟩ := HC.out _ _ _ _ HE1.out
            go_upto_region 26 with fail
            refine quiet_in (fun w' => REncAt w w' M Sv A u7 xk mx max bk) (by kernel_rfl) (by kernel_rfl) ?_ fun hne => ?_
            · exact HE1.out.next ((Below.refl _ _).drew)
            have q0 : ∀ x : WIn (fun w' => REncAt w w' M Sv A u7 xk mx max bk), x.w.cell? ⟨b, off + k * 2, none⟩ = some (.string ⟨f.1.toArray⟩) := fun x => (HC.out _ _ _ _ x.h).1
            have q1 : ∀ x : WIn (fun w' => REncAt w w' M Sv A u7 xk mx max bk), x.w.cell? ⟨b, off + k * 2 + 1, none⟩ = some (.string ⟨f.2.toArray⟩) := fun x => (HC.out _ _ _ _ x.h).2.1
            repeat (first | go_big_quiet_skip | (go_big_quiet_want; go_big_quiet_op; go_big_quiet_on))
            go_big_quiet_want
            go_big_quiet_op
            refine ⟨_, fun x => quiet_call (renc_find x.h f hfo) (fun e w9 h9 => ⟨h9.1, x.h.next h9.2⟩), ?_⟩
            go_big_quiet_on
            repeat (first | go_big_quiet_skip | (go_big_quiet_want; go_big_quiet_op; go_big_quiet_on))
            refine wpQuiet_nil ?_
            intro w9 hw9
            have hC9 : REncAt w w9 M Sv A u7 xk mx max bk := by
              obtain ⟨x, hx⟩ := hw9
              rw [hx]
              exact x.h
            clear hne hw9 q0 q1 e0 e1 hbr
            have HE9 := Lib.hid hC9
            obtain ⟨p, hp⟩ : ∃ p, fnd (isF f) (tAll xk) = p := ⟨_, rfl⟩
            obtain ⟨q, hq⟩ : ∃ q, fnd (isN f) (tAll xk) = q := ⟨_, rfl⟩
            rw [hp, hq]
            have hpl2 : p ≤ 4096 := by have := fnd_le (isF f) (tAll xk); rw [tAll_len] at this; omega
            have hql2 : q ≤ 4096 := by have := fnd_le (isN f) (tAll xk); rw [tAll_len] at this; omega
            have HP := Lib.hid hp
            have HQ := Lib.hid hq
            clear hC9 hp hq
            have hlp := (rput_low hpl2).2.1
            have hlq := (rput_low hql2).2.2
            have ht1 := txtL_len f.1
            have ht2 := txtL_len f.2
            by_cases h0 : 0 < p
            · obtain ⟨hs, hn⟩ := saidF_yes (mx := mx) HP.out h0
              have i1 : (0 : Int) < ((p : Nat) : Int) := by omega
              have i2 := decide_eq_true h0
              have HS := Lib.hid hs
              have HN := Lib.hid hn
              clear hs hn
              go_wp2_with fail
              refine (rput_gave ((p : Nat) : Int) 7 128 w9).mono ?_
              rintro e w10 ⟨A10, c10, rfl, hr10, hb10⟩
              have HE10 := Lib.hid (HE9.out.next hb10)
              have HR10 := Lib.hid hr10
              clear hr10 hb10
              have HRW := Lib.hid HE10.out.row
              have HSW := Lib.hid HE10.out.size.1
              go_wp2_with (at_builtin; refine wpList_append_any _ rfl _ _ 22 rfl w.heap.size 5 i0 (.int .u8 0) 1 1 Tryd.underlying22 HI.out HZ0.out HZ1.out HZ2.out rfl (by decide) _ _ _ rfl HRW.out w10.heap.size A10 (putL ((p : Nat) : Int) 7 128).length c10 (bs (putL ((p : Nat) : Int) 7 128)) rfl HR10.out (bs_one _) (by unfold maxLen; omega) (by omega) HSW.out ?_; intro v11 w11 hownp hgp hvp; have HE11 := Lib.hid (renc_push HE10.out hownp hgp hvp); clear hownp hgp hvp)
              clear HRW HSW
              go_roundg (gk - 1)
              case measure => omega
              case rel => exact ⟨k + 1, by omega, by go_num, by rw [HNX.out, HNB.out, HS.out, HN.out]; exact HE11.out⟩
            · have hp0 : p = 0 := by omega
              have i2 := decide_eq_false h0
              have i3 : ¬ (0 : Int) < ((p : Nat) : Int) := by omega
              have i4 := decide_eq_false i3
              have HP0 := Lib.hid hp0
              clear hp0
              go_wp2_with fail
              refine (rput_gave ((q : Nat) : Int) 6 64 w9).mono ?_
              rintro e w10 ⟨A10, c10, rfl, hr10, hb10⟩
              have HE10 := Lib.hid (HE9.out.next hb10)
              have HR10 := Lib.hid hr10
              clear hr10 hb10 i2 i3 i4
              have HRW := Lib.hid HE10.out.row
              have HSW := Lib.hid HE10.out.size.1
              go_upto_region 32 with (at_builtin; refine wpList_append_any _ rfl _ _ 22 rfl w.heap.size 5 i0 (.int .u8 0) 1 1 Tryd.underlying22 HI.out HZ0.out HZ1.out HZ2.out rfl (by decide) _ _ _ rfl HRW.out w10.heap.size A10 (putL ((q : Nat) : Int) 6 64).length c10 (bs (putL ((q : Nat) : Int) 6 64)) rfl HR10.out (bs_one _) (by unfold maxLen; omega) (by omega) HSW.out ?_; intro v11 w11 hownp hgp hvp; have HE11 := Lib.hid (renc_push HE10.out hownp hgp hvp); clear hownp hgp hvp)
              clear HRW HSW
              by_cases hq0 : q = 0
              · obtain ⟨hs, hn⟩ := saidF_all (mx := mx) HP.out HP0.out HQ.out hq0
                have i5 : ((q : Nat) : Int) = 0 := by omega
                have i6 : (((q : Nat) : Int) == 0) = true := by simpa using i5
                have i7 : (q == 0) = true := by simpa using hq0
                have HS := Lib.hid hs
                have HN := Lib.hid hn
                have HQ0 := Lib.hid hq0
                have hb1 : (bk ++ putL ((q : Nat) : Int) 6 64).length ≤ 204000 := by rw [List.length_append]; omega
                have hb2 : (bk ++ putL ((q : Nat) : Int) 6 64 ++ txtL f.1).length ≤ 206000 := by rw [List.length_append]; omega
                clear hs hn hq0
                obtain ⟨e0, e1, hbr⟩ := HC.out _ _ _ _ HE11.out
                go_wp2_with fail
                refine (rtext_gave f.1 w11 hfo.1).mono ?_
                rintro e w12 ⟨A12, c12, rfl, hg12⟩
                have HE12 := Lib.hid (HE11.out.next hg12.2.2)
                have HR12 := Lib.hid hg12.2.1
                clear hg12 e0 e1 hbr i5 i6 i7
                have HRW := Lib.hid HE12.out.row
                have HSW := Lib.hid HE12.out.size.1
                go_upto_region 35 with (at_builtin; refine wpList_append_any _ rfl _ _ 22 rfl w.heap.size 5 i0 (.int .u8 0) 1 1 Tryd.underlying22 HI.out HZ0.out HZ1.out HZ2.out rfl (by decide) _ _ _ rfl HRW.out w12.heap.size A12 (txtL f.1).length c12 (bs (txtL f.1)) rfl HR12.out (bs_one _) (by unfold maxLen; omega) (by omega) HSW.out ?_; intro v13 w13 hownp hgp hvp; have HE13 := Lib.hid (renc_push HE12.out hownp hgp hvp); clear hownp hgp hvp)
                clear HRW HSW
                obtain ⟨e0, e1, hbr⟩ := HC.out _ _ _ _ HE13.out
                go_wp2_with fail
                refine (rtext_gave f.2 w13 hfo.2).mono ?_
                rintro e w14 ⟨A14, c14, rfl, hg14⟩
                have HE14 := Lib.hid (HE13.out.next hg14.2.2)
                have HR14 := Lib.hid hg14.2.1
                clear hg14 e0 e1 hbr
                have HRW := Lib.hid HE14.out.row
                have HSW := Lib.hid HE14.out.size.1
                go_upto_region 37 with (at_builtin; refine wpList_append_any _ rfl _ _ 22 rfl w.heap.size 5 i0 (.int .u8 0) 1 1 Tryd.underlying22 HI.out HZ0.out HZ1.out HZ2.out rfl (by decide) _ _ _ rfl HRW.out w14.heap.size A14 (txtL f.2).length c14 (bs (txtL f.2)) rfl HR14.out (bs_one _) (by unfold maxLen; omega) (by omega) HSW.out ?_; intro v15 w15 hownp hgp hvp; have HE15 := Lib.hid (renc_push HE14.out hownp hgp hvp); clear hownp hgp hvp)
                clear HRW HSW
                obtain ⟨e0, e1, hbr⟩ := HC.out _ _ _ _ HE15.out
                go_upto_region 37 with fail
                go_still_tail 7, (by kernel_rfl)
                have HED := Lib.hid (HE15.out.next ((Below.refl _ w15).drew))
                change wpList _ _ _ _ _ w15.drew
                generalize w15.drew = w21 at *
                clear e0 e1 hbr
                go_wp2_with fail
                refine (renc_add HED.out f hfo).mono ?_
                rintro e w22 ⟨⟨v, rfl⟩, hE22⟩
                have HE22 := Lib.hid hE22
                clear hE22
                go_wp2_with fail
                go_roundg (gk - 1)
                case measure => omega
                case rel => exact ⟨k + 1, by omega, by go_num, by rw [HNX.out, HNB.out, HS.out, HN.out]; have h := HE22.out; simp only [List.append_assoc] at h ⊢; exact h⟩
              · obtain ⟨hs, hn⟩ := saidF_lit (mx := mx) HP.out HP0.out HQ.out (by omega)
                have i5 : ¬ ((q : Nat) : Int) = 0 := by omega
                have i6 : (((q : Nat) : Int) == 0) = false := by simpa using i5
                have i7 : (q == 0) = false := by simpa using hq0
                have HS := Lib.hid hs
                have HN := Lib.hid hn
                have hb1 : (bk ++ putL ((q : Nat) : Int) 6 64).length ≤ 204000 := by rw [List.length_append]; omega
                clear hs hn
                obtain ⟨e0, e1, hbr⟩ := HC.out _ _ _ _ HE11.out
                go_wp2_with fail
                refine (rtext_gave f.2 w11 hfo.2).mono ?_
                rintro e w14 ⟨A14, c14, rfl, hg14⟩
                have HE14 := Lib.hid (HE11.out.next hg14.2.2)
                have HR14 := Lib.hid hg14.2.1
                clear hg14 e0 e1 hbr i5 i6 i7
                have HRW := Lib.hid HE14.out.row
                have HSW := Lib.hid HE14.out.size.1
                go_upto_region 37 with (at_builtin; refine wpList_append_any _ rfl _ _ 22 rfl w.heap.size 5 i0 (.int .u8 0) 1 1 Tryd.underlying22 HI.out HZ0.out HZ1.out HZ2.out rfl (by decide) _ _ _ rfl HRW.out w14.heap.size A14 (txtL f.2).length c14 (bs (txtL f.2)) rfl HR14.out (bs_one _) (by unfold maxLen; omega) (by omega) HSW.out ?_; intro v15 w15 hownp hgp hvp; have HE15 := Lib.hid (renc_push HE14.out hownp hgp hvp); clear hownp hgp hvp)
                clear HRW HSW
                obtain ⟨e0, e1, hbr⟩ := HC.out _ _ _ _ HE15.out
                go_upto_region 37 with fail
                go_still_tail 7, (by kernel_rfl)
                have HED := Lib.hid (HE15.out.next ((Below.refl _ w15).drew))
                change wpList _ _ _ _ _ w15.drew
                generalize w15.drew = w21 at *
                clear e0 e1 hbr
                go_wp2_with fail
                refine (renc_add HED.out f hfo).mono ?_
                rintro e w22 ⟨⟨v, rfl⟩, hE22⟩
                have HE22 := Lib.hid hE22
                clear hE22
                go_wp2_with fail
                go_roundg (gk - 1)
                case measure => omega
                case rel => exact ⟨k + 1, by omega, by go_num, by rw [HNX.out, HNB.out, HS.out, HN.out]; have h := HE22.out; simp only [List.append_assoc] at h ⊢; exact h⟩
          · have hke : l.take k = l := List.take_of_length_le (by omega)
            have hE := HEr.out
            rw [hke] at hE
            obtain ⟨A', c', h1, h2, h3, h4, h5⟩ := hE
            obtain ⟨AV, cv, hv⟩ := own_slice h2
            have hcap : (saidP ps ++ saidL mx xs l).length ≤ cv := by
              rw [hv] at h2
              exact own_capW h2
            have hrd : Reads wr wr.heap.size 1 AV (saidP ps ++ saidL mx xs l).length (bs (saidP ps ++ saidL mx xs l)) := by
              rw [hv] at h2
              exact Reads.of_own h2
            have hfr : ∀ ad, AV = some ad → w.heap.size ≤ ad.block ∧ ad.block < wr.heap.size := fun ad e => h2.lt ad.block (by rw [hv, e]; rfl)
            have HFR := Lib.hid hfr
            have HEND := Lib.hid (show REncDone w wr M A Sv (nextL mx xs l) mx max from ⟨A', c', h1, h3, fun a ha => (h5 a ha).2⟩)
            have HRD := Lib.hid hrd
            clear h1 h2 h3 h4 h5 hrd hke HEr hfr
            subst hv
            go_wp2
            go_ret2
            exact ⟨AV, _, cv, rfl, rfl, hcap, HRD.out, HFR.out, HEND.out⟩
end Go.Proofs.YtkbbkamnmdeagaaDoor
