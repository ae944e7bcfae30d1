/-
  The reference's coder: Decode, every way. Condition: the bound on the bytes; the bytes are none of the coder's own block.
  The program's coder and the reference's in one world, while both hear: the words of the law HeadPlays. Condition: the bounds on the bytes.
  Arguments opened: bytes, a string, with the form's own reach. No condition.
  Arguments opened further: lists of fields, lists of lists. No condition.
-/
import Derived.Test.YtkbbkamnmdeagaaDoorRC5
import Derived.Test.YtkbbkamnmdeagaaDoorMHeadPlays23
import Derived.Test.YtkbbkamnmdeagaaDoorMHeadPlays21
import Derived.Test.YtkbbkamnmdeagaaDoorMHeadPlays01
import Derived.ProofKit
import Derived.OpenShut
import Derived.ShutString
import Derived.SizedLaws
import Derived.Test.YtkbbkamnmdeagaaDoorMHeadPlays07
import Derived.Deep.SlicePairs
import Derived.Lib.SmallJoins
namespace Go.Proofs.YtkbbkamnmdeagaaDoor
open Go.RowKit
attribute [local go_sem ↓] Go.wp_at_zero Go.wp_at_succ

set_option maxRecDepth 100000 in
set_option maxHeartbeats 4000000 in
theorem rcdecode_any {w : World} {M : Nat} {A : Option Addr} {c : Nat} {ys : List Fld} {my most : Nat} (H : RIn w M A c ys my most false) (hA : ∀ a, A = some a → a.block < w.heap.size) {O : Nat → Prop} (hO : ∀ a, A = some a → O a.block) (hmost : most ≤ 4096) (b : List UInt8) (LA : Option Addr) (n lc : Nat) (hn : n = b.length) (hcap : b.length ≤ lc) (hm : b.length ≤ 140737488355328) (hr : Reads w w.heap.size 1 LA b.length (bs b)) (hBM : ∀ ad, LA = some ad → ad.block ≠ M) (r : Step) (hH : heard most ys my [] b = r) :
    Calls Tryd.prog 64 #[.pointer (some ⟨M, 0, none⟩), .slice LA n lc] w fun e w' =>
      (r.e = 0 ∧ (∃ A2 n2 c2, e = .returned (.tuple #[.slice A2 n2 c2, .int .i64 0]) ∧ n2 = r.l.length ∧ w'.ownsRow w.heap.size 86 2 (.slice A2 n2 c2) n2 (fvs r.l)) ∧ RInDone O w w' M r.xs r.mx most false) ∨
      (r.e ≠ 0 ∧ e = .returned (.tuple #[.slice none 0 0, .int .i64 ((r.e : Nat) : Int)]) ∧ RInBad w w' M true) := by
  subst hn
  obtain ⟨-, -, -, c6, -, hl⟩ := H.cells
  have HCD := Lib.hid (rdec_any H hA hO hmost b LA _ lc rfl hcap hm hr hBM r hH)
  clear H hr hH hBM hA hO
  go_enter Tryd.func64, Tryd.ntmps64
  go_wp2_with fail
  refine HCD.out.mono ?_
  rintro e w1 (⟨h0, ⟨A2, n2, c2, rfl, hn2, hrow⟩, hd⟩ | ⟨h0, rfl, ⟨a0, a1, a2, a3, a4, a5, hb⟩, hk⟩)
  · have HFIN := Lib.hid (And.intro h0 (And.intro hn2 (And.intro hrow hd)))
    clear h0 hn2 hrow hd
    go_wp2
    go_ret2
    exact .inl ⟨HFIN.out.1, ⟨A2, n2, c2, rfl, HFIN.out.2.1, HFIN.out.2.2.1⟩, HFIN.out.2.2.2⟩
  · obtain ⟨E, hE⟩ : ∃ E, r.e = E := ⟨_, rfl⟩
    rw [hE] at h0 ⊢
    have d6 := hb.cell 6
    have f6 := hb.frozen 6
    have hl6 := hb.lt
    have hb3 := hb.set_ 6 (.bool true)
    have HFIN := Lib.hid (show RInBad w (w1.setCell ⟨M, 6, none⟩ (.bool true)) M true from ⟨⟨a0, a1, a2, a3, a4, a5, by simpa using hb3⟩, hk.setCell (.inl rfl) _⟩)
    have i1 : ¬ ((E : Nat) : Int) = 0 := by omega
    have i2 : (((E : Nat) : Int) == 0) = false := by simpa using h0
    have i3 : (((E : Nat) : Int) != 0) = true := by simpa using h0
    have HE := Lib.hid h0
    have HEQ := Lib.hid hE
    clear hb hk hb3 h0 hE
    go_wp2
    go_ret2
    exact .inr ⟨by rw [HEQ.out]; exact HE.out, by rw [HEQ.out]; rfl, HFIN.out⟩
set_option maxRecDepth 100000 in
set_option maxHeartbeats 1000000 in
theorem rcdecode_bad {w : World} {M : Nat} {a0 a1 a2 a3 a4 a5 : Value} (hb : Blk w M 136 #[a0, a1, a2, a3, a4, a5, .bool true]) (LA : Option Addr) (n lc : Nat) :
    Calls Tryd.prog 64 #[.pointer (some ⟨M, 0, none⟩), .slice LA n lc] w fun e w' => e = .returned (.tuple #[.slice none 0 0, .int .i64 6]) ∧ w = w' := by
  have c6 := hb.cell 6
  have hl := hb.lt
  clear hb
  go_enter Tryd.func64, Tryd.ntmps64
  go_wp2
  go_ret2
  exact ⟨rfl, rfl⟩
end Go.Proofs.YtkbbkamnmdeagaaDoor
namespace Go.Proofs.YtkbbkamnmdeagaaDoor
open Go.RowKit
attribute [local go_sem ↓] Go.wp_at_zero Go.wp_at_succ

theorem heardS_much {most : Nat} {xs : List Fld} {mx : Nat} {l : List Fld} {b : List UInt8} (h : (heardS most xs mx l b).e = 0) (hl : tooMuch l = false) : tooMuch (heardS most xs mx l b).l = false := by
  have hp : ∀ xs mx f n, (pushF xs mx l f n).e = 0 → tooMuch (pushF xs mx l f n).l = false := by
    intro xs mx f n
    cases ht : tooMuch (l ++ [f]) with
    | true => rw [pushF_much ht]; intro h; cases h
    | false => rw [pushF_fine ht]; intro _; exact ht
  unfold heardS at h ⊢
  split at h
  · rename_i h1
    rw [if_pos h1]
    split at h
    · rename_i h2
      exact absurd h h2
    · rename_i h2
      rw [if_neg h2]
      split at h
      · cases h
      · rename_i h3
        rw [if_neg h3]
        exact hp _ _ _ _ h
  · rename_i h1
    rw [if_neg h1]
    split at h
    · rename_i h2
      rw [if_pos h2]
      split at h
      · rename_i h3
        exact absurd h h3
      · rename_i h3
        rw [if_neg h3]
        exact hp _ _ _ _ h
    · rename_i h2
      rw [if_neg h2]
      split at h
      · rename_i h3
        rw [if_pos h3]
        split at h
        · rename_i h4
          exact absurd h h4
        · rename_i h4
          rw [if_neg h4]
          split at h
          · cases h
          · rename_i h5
            rw [if_neg h5]
            split at h
            · cases h
            · rename_i h6
              rw [if_neg h6]
              exact hl
      · rename_i h3
        rw [if_neg h3]
        split at h
        · rename_i h4
          exact absurd h h4
        · rename_i h4
          rw [if_neg h4]
          exact hp _ _ _ _ h
theorem heard_much {most : Nat} (n : Nat) : ∀ (xs : List Fld) (mx : Nat) (l : List Fld) (b : List UInt8), b.length ≤ n → (heard most xs mx l b).e = 0 → tooMuch l = false → tooMuch (heard most xs mx l b).l = false ∧ (heard most xs mx l b).n = 0 := by
  induction n with
  | zero =>
    intro xs mx l b hb _ hl
    have : b = [] := List.eq_nil_of_length_eq_zero (by omega)
    subst this
    rw [heard_nil]
    exact ⟨hl, rfl⟩
  | succ n ih =>
    intro xs mx l b hb h hl
    by_cases hn : b = []
    · subst hn
      rw [heard_nil]
      exact ⟨hl, rfl⟩
    · by_cases h0 : (heardS most xs mx l b).e = 0
      · have hu := heardS_used h0
        rw [heard_next hn h0] at h ⊢
        exact ih _ _ _ _ (by rw [List.length_drop]; omega) h (heardS_much h0 hl)
      · rw [heard_fault hn h0] at h
        exact absurd h h0

/-! ### no bytes at all -/
set_option maxRecDepth 100000 in
set_option maxHeartbeats 2000000 in
theorem cdec_nil (C : Nat) (LA : Option Addr) (lc : Nat) (w : World) :
    Calls Tryd.prog 94 #[.pointer (some ⟨C, 0, none⟩), .slice LA 0 lc] w fun e w' => e = .returned (.tuple #[.slice none 0 0, .nilIface]) ∧ Below w.heap.size w w' := by
  have hblk := Blk.new w 154 #[.slice LA 0 lc, .nilIface]
  have r0 := hblk.cell 0
  have r1 := hblk.cell 1
  have HBW := Lib.hid (show Below w.heap.size w (w.alloc (.cells #[.slice LA 0 lc, .nilIface] 154)) from (Below.refl _ _).alloc (Nat.le_refl _) _)
  clear hblk
  go_enter Tryd.func94, Tryd.ntmps94
  go_wp2_with fail
  go_loopg [4] 0 (fun n v wr => n = 0 ∧ v = .slice none 0 0 ∧ wr = w.alloc (.cells #[.slice LA 0 lc, .nilIface] 154))
  case atStart => exact ⟨rfl, rfl, rfl⟩
  case round =>
    obtain ⟨-, rfl, rfl⟩ := hrel
    go_wp2
    go_ret2
    exact ⟨rfl, HBW.out⟩
set_option maxRecDepth 100000 in
set_option maxHeartbeats 2000000 in
theorem cdecode_nil {w : World} {C h : Nat} {A : Option Addr} {c : Nat} {ys : List Fld} {my most : Nat} (H : CIn w C h A c ys my most false) (LA : Option Addr) (lc : Nat) :
    Calls Tryd.prog 65 #[.pointer (some ⟨C, 0, none⟩), .slice LA 0 lc] w fun e w' => e = .returned (.tuple #[.slice none 0 0, .nilIface]) ∧ InDone w w' C h A ys my most := by
  obtain ⟨⟨g, Sv, hb⟩, ht⟩ := H
  have c4 := hb.cell 4
  have HC := Lib.hid hb.lt
  have HB := Lib.hid hb
  have HT := Lib.hid ht
  clear hb ht
  go_enter Tryd.func65, Tryd.ntmps65
  go_wp2_with fail
  refine (cdec_nil C LA lc w).mono ?_
  rintro e w1 ⟨rfl, hbw⟩
  have hb2 := HB.out.below hbw HB.out.lt
  have c4 := hb2.cell 4
  have f4 := hb2.frozen 4
  have hl4 := hb2.lt
  have k3 : Keep (fun k => k = C) w1 (w1.setCell ⟨C, 4, none⟩ (.bool false)) := (Keep.refl (fun k => k = C) w1).setCell (p := ⟨C, 4, none⟩) (.inl rfl) _
  have hb3 := hb2.set_ 4 (.bool false)
  have hne : ∀ k, tOwn h A k → k ≠ C := by
    rintro k (rfl | ⟨a, ha, rfl⟩) e
    · exact Blk.ne_ HT.out.blk HB.out (by decide) e
    · have := own_blk_ne HT.out.own HB.out (by decide)
      rw [ha] at this
      exact this (by simp [Value.ownBlock, e])
  have HD := Lib.hid (show InDone w (w1.setCell ⟨C, 4, none⟩ (.bool false)) C h A ys my most from ⟨A, c, ⟨⟨g, Sv, by simpa using hb3⟩, (HT.out.keep (Keep.of_below (S := fun _ => False) hbw) fun _ _ h => h).keep k3 hne⟩, (Keep.of_below (S := iOwn C h A) hbw).trans k3 fun i hi => .inl (.inl hi), fun k hk => .inl hk⟩)
  clear hb2 k3 hb3 hbw hne
  go_wp2
  go_ret2
  exact ⟨rfl, HD.out⟩
set_option maxRecDepth 100000 in
set_option maxHeartbeats 2000000 in
theorem rdec_nil (M : Nat) (LA : Option Addr) (lc : Nat) (w : World) :
    Calls Tryd.prog 93 #[.pointer (some ⟨M, 0, none⟩), .slice LA 0 lc] w fun e w' => e = .returned (.tuple #[.slice none 0 0, .int .i64 0]) ∧ w = w' := by
  go_enter Tryd.func93, Tryd.ntmps93
  go_wp2_with fail
  go_loopg [1, 6] 0 (fun n bv v wr => n = 0 ∧ bv = .slice LA 0 lc ∧ v = .slice none 0 0 ∧ w = wr)
  case atStart => exact ⟨rfl, rfl, rfl, rfl⟩
  case round =>
    obtain ⟨-, rfl, rfl, rfl⟩ := hrel
    go_wp2
    go_ret2
    exact ⟨rfl, rfl⟩
set_option maxRecDepth 100000 in
set_option maxHeartbeats 2000000 in
theorem rcdecode_nil {w : World} {M : Nat} {A : Option Addr} {c : Nat} {ys : List Fld} {my most : Nat} (H : RIn w M A c ys my most false) (LA : Option Addr) (lc : Nat) :
    Calls Tryd.prog 64 #[.pointer (some ⟨M, 0, none⟩), .slice LA 0 lc] w fun e w' => e = .returned (.tuple #[.slice none 0 0, .int .i64 0]) ∧ w = w' := by
  obtain ⟨-, -, -, c6, -, hl⟩ := H.cells
  clear H
  go_enter Tryd.func64, Tryd.ntmps64
  go_wp2_with fail
  refine (rdec_nil M LA lc w).mono ?_
  rintro e w1 ⟨rfl, rfl⟩
  go_wp2
  go_ret2
  exact ⟨rfl, rfl⟩

/-- While both hear. -/
structure HQ (w0 w : World) (C h M max : Nat) (A : Option Addr) (c : Nat) (ys : List Fld) (my : Nat) (RA : Option Addr) (rc : Nat) (zs : List Fld) (mz : Nat) : Prop where
  i : CIn w C h A c ys my max false
  r : RIn w M RA rc zs mz max false
  ra : ∀ a, RA = some a → a.block < w.heap.size
  dm : ¬ iOwn C h A M
  dr : ∀ a, RA = some a → ¬ iOwn C h A a.block
  ib : ∀ k, iOwn C h A k → w0.heap.size ≤ k
  mb : w0.heap.size ≤ M
  bw : Below w0.heap.size w0 w
  mm : max ≤ 4096
/-- The reference is bad, the program is to be. -/
structure HQb (w0 w : World) (C h M max : Nat) (A : Option Addr) (c : Nat) (ys : List Fld) (my : Nat) : Prop where
  i : CIn w C h A c ys my max false
  r : ∃ a0 a1 a2 a3 a4 a5, Blk w M 136 #[a0, a1, a2, a3, a4, a5, .bool true]
  dm : ¬ iOwn C h A M
  ib : ∀ k, iOwn C h A k → w0.heap.size ≤ k
  mb : w0.heap.size ≤ M
  bw : Below w0.heap.size w0 w
  mm : max ≤ 4096
/-- Both are bad. -/
structure HX (w0 w : World) (C M : Nat) : Prop where
  i : ∃ g p mo Sv, Blk w C 134 #[g, p, mo, Sv, .bool true]
  r : ∃ a0 a1 a2 a3 a4 a5, Blk w M 136 #[a0, a1, a2, a3, a4, a5, .bool true]
  bw : Below w0.heap.size w0 w
section
variable {w0 w w1 w2 w' : World} {C g h M max c mx rc my mz : Nat} {A RA : Option Addr} {Sv RSv : Value} {xs ys zs : List Fld} {ps qs : List Nat}
theorem HX.next (H : HX w0 w C M) (hb : Below w.heap.size w w') : HX w0 w' C M := by
  obtain ⟨⟨g, p, mo, Sv, h1⟩, ⟨a0, a1, a2, a3, a4, a5, h2⟩, h3⟩ := H
  exact ⟨⟨g, p, mo, Sv, h1.below hb h1.lt⟩, ⟨a0, a1, a2, a3, a4, a5, h2.below hb h2.lt⟩, h3.trans (hb.mono h3.size)⟩
theorem HQ.next (H : HQ w0 w C h M max A c ys my RA rc zs mz) (hb : Below w.heap.size w w') : HQ w0 w' C h M max A c ys my RA rc zs mz :=
  ⟨H.i.below hb, H.r.below hb, fun a ha => Nat.lt_of_lt_of_le (H.ra a ha) hb.size, H.dm, H.dr, H.ib, H.mb, H.bw.trans (hb.mono H.bw.size), H.mm⟩
theorem HP.hear (H : HP w0 w C g h M max A c Sv xs mx ps RA rc RSv ys my qs) (hm : max ≤ 4096) : HQ w0 w C h M max none 0 [] max none 0 [] max := by
  refine ⟨⟨⟨_, _, H.o.blk⟩, H.i⟩, ⟨.slice RA ys.length rc, .int .i64 ((my : Nat) : Int), RSv, H.r.tab.blk, H.r.tab.nos, rfl, rfl, Nat.le_refl _, Reads.none_, Nat.zero_le _, hm, by simp⟩, (fun a e => by cases e), ?_, (fun a e => by cases e), ?_, H.rb M (.inl rfl), H.bw, hm⟩
  · rintro (e | (e | ⟨a, ha, _⟩))
    · exact H.dj M (.inl rfl) (.inl e)
    · exact H.hr (.inl e.symm)
    · cases ha
  · rintro k (rfl | (rfl | ⟨a, ha, _⟩))
    · exact H.ob _ (.inl rfl)
    · exact H.hb
    · cases ha
/-- The reference hears. -/
theorem hq_rdec (H : HQ w0 w C h M max A c ys my RA rc zs mz) (b : List UInt8) (hb : b ≠ []) (LA : Option Addr) (n lc : Nat) (hn : n = b.length) (hcap : b.length ≤ lc) (hm : b.length ≤ 140737488355328) (hr : Reads w w0.heap.size 1 LA b.length (bs b)) (r : Step) (hH : heard max zs mz [] b = r) :
    Calls Tryd.prog 64 #[.pointer (some ⟨M, 0, none⟩), .slice LA n lc] w fun e w' =>
      (r.e = 0 ∧ ∃ A2 n2 c2 RA2 rc2, e = .returned (.tuple #[.slice A2 n2 c2, .int .i64 0]) ∧ n2 = r.l.length ∧ Reads w' w'.heap.size 2 A2 n2 (fvs r.l) ∧ (∀ ad, A2 = some ad → ¬ iOwn C h A ad.block) ∧ HQ w0 w' C h M max A c ys my RA2 rc2 r.xs r.mx) ∨
      (r.e ≠ 0 ∧ e = .returned (.tuple #[.slice none 0 0, .int .i64 ((r.e : Nat) : Int)]) ∧ HQb w0 w' C h M max A c ys my) := by
  have hil := H.i.lt
  have hbl : 0 < b.length := by cases b with | nil => exact absurd rfl hb | cons x t => simp
  refine (rcdecode_any H.r H.ra (O := fun k => ∃ a, RA = some a ∧ a.block = k) (fun a ha => ⟨a, ha, rfl⟩) H.mm b LA n lc hn hcap hm (hr.more H.bw.size) (fun ad e e2 => ?_) r hH).mono ?_
  · obtain ⟨ad', e', hb', _⟩ := hr.2 hbl
    rw [e] at e'
    cases e'
    have := H.mb
    omega
  · rintro e w' (⟨h0, ⟨A2, n2, c2, rfl, hn2, hrow⟩, ⟨RA2, rc2, h1, h2⟩, hk⟩ | ⟨h0, rfl, hbad, hk⟩)
    · refine .inl ⟨h0, A2, n2, c2, RA2, rc2, rfl, hn2, reads_own hrow, fun ad e ho => ?_, H.i.keep hk (fun k hi e => H.dm (e ▸ hi)), h1, fun a ha => (h2 a ha).1, H.dm, fun a ha hi => ?_, H.ib, H.mb, H.bw.trans (hk.below H.bw.size fun i hi => hi ▸ H.mb), H.mm⟩
      · have e1 := (hrow.lt ad.block (by rw [e]; rfl)).1
        have e2 := hil _ ho
        omega
      · rcases (h2 a ha).2 with ⟨a0, e1, e2⟩ | e1
        · exact H.dr a0 e1 (e2 ▸ hi)
        · have := hil _ hi
          omega
    · exact .inr ⟨h0, rfl, H.i.keep hk (fun k hi e => H.dm (e ▸ hi)), hbad, H.dm, H.ib, H.mb, H.bw.trans (hk.below H.bw.size fun i hi => hi ▸ H.mb), H.mm⟩
theorem HQ.ours (H : HQ w0 w C h M max A c ys my RA rc zs mz) {ys2 : List Fld} {my2 : Nat} (hd : InDone w w' C h A ys2 my2 max) : ∃ A2 c2, HQ w0 w' C h M max A2 c2 ys2 my2 RA rc zs mz := by
  obtain ⟨A2, c2, h1, h2, h3⟩ := hd
  have hml := H.r.cells.2.2.2.2.2
  refine ⟨A2, c2, h1, H.r.keep h2 H.dm H.dr, fun a ha => Nat.lt_of_lt_of_le (H.ra a ha) h2.size, fun hi => ?_, fun a ha hi => ?_, fun k hi => ?_, H.mb, H.bw.trans (h2.below H.bw.size H.ib), H.mm⟩
  · rcases h3 _ hi with e | e
    · exact H.dm e
    · omega
  · have := H.ra a ha
    rcases h3 _ hi with e | e
    · exact H.dr a ha e
    · omega
  · rcases h3 _ hi with e | e
    · exact H.ib _ e
    · exact Nat.le_trans H.bw.size e
/-- The program hears. -/
theorem hq_dec (H : HQ w0 w C h M max A c ys my RA rc zs mz) (b : List UInt8) (hb : b ≠ []) (LA : Option Addr) (n lc : Nat) (hn : n = b.length) (hcap : b.length ≤ lc) (hm : b.length ≤ 140737488355328) (hr : Reads w w0.heap.size 1 LA b.length (bs b)) (r : Step) (hH : heard max ys my [] b = r) (h0 : r.e = 0)
    {B : Option Addr} {m : Nat} (hB : Reads w w.heap.size 2 B m (fvs r.l)) (hBo : ∀ ad, B = some ad → ¬ iOwn C h A ad.block) :
    Calls Tryd.prog 65 #[.pointer (some ⟨C, 0, none⟩), .slice LA n lc] w fun e w' => ∃ A2 n2 c2 A3 c3, e = .returned (.tuple #[.slice A2 n2 c2, .nilIface]) ∧ n2 = r.l.length ∧ r.l.length ≤ 140737488355328 ∧ Reads w' w'.heap.size 2 A2 n2 (fvs r.l) ∧ Reads w' w'.heap.size 2 B m (fvs r.l) ∧ HQ w0 w' C h M max A3 c3 r.xs r.mx RA rc zs mz := by
  have hbl : 0 < b.length := by cases b with | nil => exact absurd rfl hb | cons x t => simp
  obtain ⟨ad, hLA, hlt, _⟩ := hr.2 hbl
  obtain ⟨e1, e2⟩ := heard_much (most := max) b.length ys my [] b (Nat.le_refl _) (by rw [hH]; exact h0) rfl
  rw [hH] at e1 e2
  have e3 := (fOk_little e1).2
  have hr2 : heard max ys my [] b = ⟨0, r.xs, r.mx, r.l, 0⟩ := by
    rw [hH]
    cases r
    simp only at h0 e2
    rw [h0, e2]
  refine (cdecode_ok H.i H.mm b LA n lc hn hcap hm ad.block (Nat.lt_of_lt_of_le hlt H.bw.size) (fun hi => ?_) (hr.more H.bw.size) (fun a e => ?_) r.xs r.mx r.l hr2).mono ?_
  · have := H.ib _ hi
    omega
  · rw [hLA] at e
    cases e
    rfl
  · rintro e w' ⟨A2, n2, c2, rfl, hn2, hrow, hd⟩
    have hk : Keep (iOwn C h A) w w' := by
      obtain ⟨_, _, _, h2, _⟩ := hd
      exact h2
    obtain ⟨A3, c3, h4⟩ := H.ours hd
    exact ⟨A2, n2, c2, A3, c3, rfl, hn2, by omega, reads_own hrow, (reads_keep hB hk (Nat.le_refl _) hBo).more hk.size, h4⟩
theorem hqb_dec (H : HQb w0 w C h M max A c ys my) (b : List UInt8) (hb : b ≠ []) (LA : Option Addr) (n lc : Nat) (hn : n = b.length) (hcap : b.length ≤ lc) (hm : b.length ≤ 140737488355328) (hr : Reads w w0.heap.size 1 LA b.length (bs b)) (r : Step) (hH : heard max ys my [] b = r) (h0 : r.e ≠ 0) :
    Calls Tryd.prog 65 #[.pointer (some ⟨C, 0, none⟩), .slice LA n lc] w fun e w' => e = .returned (.tuple #[.slice none 0 0, errV r.e]) ∧ HX w0 w' C M := by
  have hbl : 0 < b.length := by cases b with | nil => exact absurd rfl hb | cons x t => simp
  obtain ⟨ad, hLA, hlt, _⟩ := hr.2 hbl
  refine (cdecode_fault H.i H.mm b LA n lc hn hcap hm ad.block (Nat.lt_of_lt_of_le hlt H.bw.size) (fun hi => ?_) (hr.more H.bw.size) (fun a e => ?_) r.e h0 (by rw [hH])).mono ?_
  · have := H.ib _ hi
    omega
  · rw [hLA] at e
    cases e
    rfl
  · rintro e w' ⟨rfl, hbad, hk⟩
    obtain ⟨a0, a1, a2, a3, a4, a5, hb⟩ := H.r
    refine ⟨?_, hbad, ⟨a0, a1, a2, a3, a4, a5, hb.keep hk H.dm⟩, H.bw.trans (hk.below H.bw.size H.ib)⟩
    unfold errV
    rw [if_neg h0]
end
end Go.Proofs.YtkbbkamnmdeagaaDoor
namespace Go.Proofs.YtkbbkamnmdeagaaDoor
open Go.ChangeShapes Go.WideShapes Go.ChangeAt Go.RowKit
open Go.ChangeMaps (open_string shut_string)

theorem prog_own : ownKnob Tryd.prog.godebug = none := by kernel_rfl
theorem prog_laidOut : laidOutB Tryd.prog = true := by kernel_rfl
theorem cells_u8 : Tryd.prog.cellsOf 5 = 1 := by kernel_rfl
theorem bytes_u8 : Tryd.prog.bytesOf 5 = 1 := by kernel_rfl

theorem u8_of_wf {z : Int} (h : (Lit.int .u8 z).wf = true) : 0 ≤ z ∧ z ≤ 255 := by
  simp [Lit.wf, IntKind.min, IntKind.max, IntKind.bits, IntKind.signed] at h
  omega

/-- Cells of bytes, as a list of bytes that reads. -/
theorem reads_of_cells {W : World} {x : Addr} {zs : List Int} {n : Nat} (hn : n ≤ zs.length) (hcell : ∀ i, i < zs.length → W.cell? (x.add i) = some (.int .u8 (zs.getD i 0))) (hwz : ∀ n ∈ zs, (Lit.int .u8 n).wf = true) :
    ∃ l : List UInt8, l.length = n ∧ Reads W W.heap.size 1 (some x) n (bs l) := by
  refine ⟨(zs.take n).map (fun z => UInt8.ofNat z.toNat), by simp; omega, ⟨by simp [bs]; omega, fun h0 => ⟨x, rfl, ?_, ?_⟩⟩⟩
  · have h1 := World.block_lt_of_cell? W _ (hcell 0 (by omega))
    simpa [Addr.add] using h1
  · intro j u hu
    have hj : j < (bs ((zs.take n).map (fun z => UInt8.ofNat z.toNat))).length := (List.getElem?_eq_some_iff.1 hu).1
    simp [bs] at hj
    have hz := u8_of_wf (hwz (zs[j]'(by omega)) (List.getElem_mem _))
    rw [hcell j (by omega), ← hu]
    simp only [bs, List.map_map, List.getElem?_map]
    rw [List.getElem?_take, if_pos (by omega), List.getElem?_eq_getElem (by omega)]
    simp only [Option.map_some, Function.comp, UInt8.toNat_ofNat', List.getD_eq_getElem?_getD, List.getElem?_eq_getElem (show j < zs.length by omega), Option.getD_some]
    congr 2
    omega

section
variable {H : Type} {enc : TypeId × Value → H} {W : World} {ts : List TypeId} {ds : List (DataW H)} {base j : Nat} {v : Value} {d : DataW H} {p : List MemPlace}
set_option maxRecDepth 100000 in
/-- A []byte argument. -/
theorem open_bytes (hval : Value.okWide Tryd.prog W .any base 22 v) (h : DataW.Trod enc Tryd.prog W 0 (fun _ => true) true 22 v d p)
    (hsz : (DataW.weightsEach Tryd.prog ts ds).all (· ≤ reachBytes) = true) (ht : ts[j]? = some 22) (hd : ds[j]? = some d) :
    ∃ A l cap, v = .slice A l.length cap ∧ l.length ≤ cap ∧ cap ≤ 140737488351232 ∧ Reads W W.heap.size 1 A l.length (bs l) := by
  obtain ⟨a0, len, cap, rfl⟩ := okWide_slice Tryd.underlying22 hval
  obtain ⟨fuel, hf⟩ := h
  rcases open_ints Tryd.underlying22 Tryd.underlying5 cells_u8 hf with ⟨hcs, _⟩ | ⟨x, l, c, zs, hcs, _, hl, hm, hz, hx, hcell, hwz⟩
  · simp [Value.cells] at hcs
    obtain ⟨rfl, rfl, rfl⟩ := hcs
    exact ⟨none, [], 0, rfl, Nat.le_refl _, Nat.zero_le _, Reads.none_⟩
  · simp [Value.cells] at hcs
    obtain ⟨rfl, rfl, rfl⟩ := hcs
    simp at hz
    obtain ⟨l, hl2, hr⟩ := reads_of_cells (n := len) (by omega) hcell hwz
    simp only [Prod.mk.injEq] at hx
    have hr2 := sized_slice hsz ht (by rw [hd, hx.1]) Tryd.underlying22
    rw [bytes_u8] at hr2
    simp only [lits, List.length_map, List.length_take, List.length_drop, reachBytes] at hr2
    exact ⟨some x, l, cap, by rw [hl2], by omega, by omega, by rw [hl2]; exact hr⟩
set_option maxRecDepth 100000 in
/-- A string argument. -/
theorem open_str (hval : Value.okWide Tryd.prog W .any base 9 v) (h : DataW.Trod enc Tryd.prog W 0 (fun _ => true) true 9 v d p)
    (hsz : (DataW.weightsEach Tryd.prog ts ds).all (· ≤ reachBytes) = true) (ht : ts[j]? = some 9) (hd : ds[j]? = some d) :
    ∃ l : List UInt8, v = .string ⟨l.toArray⟩ ∧ d = .lit (.string l) ∧ p = [] ∧ l.length ≤ 140737488351232 := by
  obtain ⟨s, rfl, rfl, rfl, hs⟩ := open_string Tryd.underlying9 hval h
  have h2 := sized_string hsz ht hd
  simp only [reachBytes] at h2
  exact ⟨s.data.toList, rfl, rfl, rfl, h2⟩
end
end Go.Proofs.YtkbbkamnmdeagaaDoor
namespace Go.Proofs.YtkbbkamnmdeagaaDoor
open Go.ChangeShapes Go.WideShapes Go.ChangeAt Go.RowKit Go.Deep
open Go.ChangeMaps (open_string shut_string)

/-- No number of bytes in a datum is over the reach. -/
def Wok {H : Type} (t : TypeId) (d : DataW H) : Prop := ∀ n ∈ d.weights Tryd.prog t, n ≤ reachBytes
section
variable {H : Type}
theorem wok_arg {ts : List TypeId} {ds : List (DataW H)} {j : Nat} {t : TypeId} {d : DataW H} (hsz : (DataW.weightsEach Tryd.prog ts ds).all (· ≤ reachBytes) = true) (ht : ts[j]? = some t) (hd : ds[j]? = some d) : Wok t d := fun n hn => by
  simpa using List.all_eq_true.1 hsz _ (DataW.weights_mem_each ht hd n hn)
theorem weightsAll_mem {e : TypeId} {d : DataW H} : ∀ {ds : List (DataW H)}, d ∈ ds → ∀ n ∈ d.weights Tryd.prog e, n ∈ DataW.weightsAll Tryd.prog e ds
  | x :: r, h, n, hn => by
    simp only [DataW.weightsAll, List.mem_append]
    rcases List.mem_cons.1 h with rfl | h
    · exact .inl hn
    · exact .inr (weightsAll_mem h n hn)
theorem wok_slice {t e : TypeId} {es sp : List (DataW H)} (h : Wok t (.slice es sp)) (ht : Tryd.prog.underlying t = some (.slice e)) : (es.length + sp.length) * Tryd.prog.bytesOf e ≤ reachBytes ∧ ∀ d ∈ es, Wok e d := by
  refine ⟨h _ (by simp [DataW.weights, ht]), fun d hd n hn => h n ?_⟩
  simp only [DataW.weights, ht, List.mem_cons, List.mem_append]
  exact .inr (.inl (weightsAll_mem hd n hn))
theorem wok_str {t : TypeId} {l : List UInt8} (h : Wok (H := H) t (.lit (.string l))) : l.length ≤ 140737488351232 := by
  have := h l.length (by simp [DataW.weights])
  simpa [reachBytes] using this
theorem wok_two {t : TypeId} {f0 f1 : Field} {a b : DataW H} (h : Wok t (.agg [a, b])) (ht : Tryd.prog.underlying t = some (.struct #[f0, f1])) : Wok f0.type a ∧ Wok f1.type b := by
  constructor
  · intro n hn
    exact h n (by simp [DataW.weights, ht, DataW.weightsEach, hn])
  · intro n hn
    exact h n (by simp [DataW.weights, ht, DataW.weightsEach, hn])
end

section
variable {H : Type} {enc : TypeId × Value → H} {W : World}
theorem str_of_cell {n : Nat} {v : Value} {x : DataW H × List MemPlace} (h : DataW.trod enc Tryd.prog W 0 (fun _ => true) true n 9 [v] = some x) : ∃ l : List UInt8, v = .string ⟨l.toArray⟩ ∧ x.1 = .lit (.string l) := by
  obtain ⟨s, h1, h2, _⟩ := DataW.trod_string Tryd.underlying9 h
  refine ⟨s.data.toList, ?_, by rw [h2]⟩
  injection h1
/-- Cells that read as fields. -/
theorem reads_fields {A : Addr} {l : List Fld} (h : ∀ k (hk : k < l.length), W.cell? (A.add (k * 2)) = some (.string ⟨l[k].1.toArray⟩) ∧ W.cell? (A.add (k * 2 + 1)) = some (.string ⟨l[k].2.toArray⟩)) :
    Reads W W.heap.size 2 (some A) l.length (fvs l) := by
  refine ⟨fvs_length l, fun h0 => ⟨A, rfl, ?_, fun j u hu => ?_⟩⟩
  · have := World.block_lt_of_cell? W _ (h 0 h0).1
    rwa [block_of_add] at this
  · have hj : j < (fvs l).length := (List.getElem?_eq_some_iff.1 hu).1
    rw [fvs_length] at hj
    have hk : j / 2 < l.length := by omega
    obtain ⟨a0, a1⟩ := fvs_at l hk
    obtain ⟨c0, c1⟩ := h _ hk
    rcases (by omega : j = j / 2 * 2 ∨ j = j / 2 * 2 + 1) with e | e
    · rw [e, a0] at hu
      rw [e, c0]
      exact hu
    · rw [e, a1] at hu
      rw [e, c1]
      exact hu
theorem fld_under : Tryd.prog.underlying 76 = some (.slice 86) := Tryd.underlying76
set_option maxRecDepth 100000 in
theorem fields_of_cells {fuel : Nat} {cs : List Value} {x : DataW H × List MemPlace} (hf : DataW.trod enc Tryd.prog W 0 (fun _ => true) true fuel 76 cs = some x) (hw : Wok 76 x.1) :
    ∃ A l c, cs = [.slice A l.length c] ∧ l.length ≤ c ∧ c * 32 ≤ 140737488351232 ∧ (∀ f ∈ l, fOk f) ∧ Reads W W.heap.size 2 A l.length (fvs l) := by
  obtain ⟨f0, f1, he, o0, o1, c0, c1, t0, t1⟩ : ∃ f0 f1 : Field, Tryd.prog.underlying 86 = some (.struct #[f0, f1]) ∧ f0.offset = 0 ∧ f1.offset = 1 ∧ Tryd.prog.cellsOf f0.type = 1 ∧ Tryd.prog.cellsOf f1.type = 1 ∧ f0.type = 9 ∧ f1.type = 9 :=
    ⟨_, _, Tryd.underlying86, rfl, rfl, by kernel_rfl, by kernel_rfl, rfl, rfl⟩
  rcases open_slice_pairs fld_under he (by kernel_rfl) o0 o1 c0 c1 hf with ⟨rfl, _⟩ | ⟨a, len, cap, m, n, V0, V1, D0, D1, P0, P1, rfl, hb, hl, hm, hmm, rfl, hx⟩
  · exact ⟨none, [], 0, rfl, Nat.le_refl _, by omega, by simp, Reads.none_⟩
  · simp only [if_true] at hmm
    subst hmm
    rw [t0, t1] at hx
    obtain ⟨hw1, hw2⟩ := wok_slice hw fld_under
    simp only [List.length_map, List.length_range] at hw1
    rw [show Tryd.prog.bytesOf 86 = 32 by kernel_rfl] at hw1
    have each : ∀ i, i < len → ∃ f : Fld, (V0 i = .string ⟨f.1.toArray⟩ ∧ V1 i = .string ⟨f.2.toArray⟩) ∧ fOk f := by
      intro i hi
      obtain ⟨_, _, h0, h1⟩ := hx i (by omega)
      obtain ⟨l0, e0, d0⟩ := str_of_cell h0
      obtain ⟨l1, e1, d1⟩ := str_of_cell h1
      have := wok_two (hw2 (.agg [D0 i, D1 i]) (List.mem_map.2 ⟨i, List.mem_range.2 hi, rfl⟩)) he
      simp only at d0 d1
      rw [d0, d1, t0, t1] at this
      have l0' := wok_str this.1
      have l1' := wok_str this.2
      exact ⟨(l0, l1), ⟨e0, e1⟩, by simp only; omega, by simp only; omega⟩
    obtain ⟨F, hF⟩ := choose_lt each
    have hlen : ((List.range len).map F).length = len := by simp
    refine ⟨some a, (List.range len).map F, m, by rw [hlen], by omega, ?_, ?_, ?_⟩
    · simp only [reachBytes] at hw1
      have : len + (m - len) = m := by omega
      rw [this] at hw1
      omega
    · intro f hf
      obtain ⟨i, hi, rfl⟩ := List.mem_map.1 hf
      exact (hF i (List.mem_range.1 hi)).2
    · refine reads_fields fun k hk => ?_
      rw [hlen] at hk
      obtain ⟨h0, h1, _, _⟩ := hx k (by omega)
      have := (hF k hk).1
      simp only [List.getElem_map, List.getElem_range]
      rw [h0, h1, this.1, this.2]
      exact ⟨rfl, rfl⟩
set_option maxRecDepth 100000 in
/-- A []api.Field argument. -/
theorem open_fields {ts : List TypeId} {ds : List (DataW H)} {base j : Nat} {v : Value} {d : DataW H} {p : List MemPlace} (hval : Value.okWide Tryd.prog W .any base 76 v) (h : DataW.Trod enc Tryd.prog W 0 (fun _ => true) true 76 v d p)
    (hsz : (DataW.weightsEach Tryd.prog ts ds).all (· ≤ reachBytes) = true) (ht : ts[j]? = some 76) (hd : ds[j]? = some d) :
    ∃ A l c, v = .slice A l.length c ∧ l.length ≤ c ∧ c * 32 ≤ 140737488351232 ∧ (∀ f ∈ l, fOk f) ∧ Reads W W.heap.size 2 A l.length (fvs l) := by
  obtain ⟨a0, len, cap, rfl⟩ := okWide_slice Tryd.underlying76 hval
  obtain ⟨fuel, hf⟩ := h
  obtain ⟨A, l, c, hcs, h1⟩ := fields_of_cells hf (wok_arg hsz ht hd)
  simp [Value.cells] at hcs
  obtain ⟨rfl, rfl, rfl⟩ := hcs
  exact ⟨_, _, _, rfl, h1⟩
end
end Go.Proofs.YtkbbkamnmdeagaaDoor
