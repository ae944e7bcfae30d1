/-
  The walk of the law TableKeeps: it returns true, and nothing that was in memory turns. Condition: the fields' texts' lengths.
-/
import Derived.Test.YtkbbkamnmdeagaaKeepsLaw
import Derived.Deep.QuietTactic
import Derived.BigQuiet
import Derived.Test.YtkbbkamnmdeagaaQuietIn
namespace Go.Proofs.Ytkbbkamnmdeagaa
open Go.RowKit
attribute [local go_sem ↓] Go.wp_at_zero Go.wp_at_succ

set_option maxRecDepth 100000 in
set_option maxHeartbeats 1000000 in
theorem rsize_any (f : Fld) (hf : fOk f) (w : World) :
    Calls Try.prog 15 #[.agg #[.string ⟨f.1.toArray⟩, .string ⟨f.2.toArray⟩]] w fun e w' => e = .returned (.int .i64 (fsz f : Nat)) ∧ Below w.heap.size w w' := by
  obtain ⟨h1, h2⟩ := hf
  go_enter Try.func15, Try.ntmps15
  go_wp2
  go_ret
  refine ⟨?_, (Below.refl _ _).alloc (Nat.le_refl _) _⟩
  simp [fsz]
def fab : Fld := ([97], [98])
theorem wt_fab : wt [fab] = 34 := rfl
theorem add_fab {w : World} {g : Nat} (h : Tab w g none 0 [] 100) :
    Calls Try.prog 12 #[.pointer (some ⟨g, 0, none⟩), .agg #[.string ⟨#[97]⟩, .string ⟨#[98]⟩]] w fun e w' => e = .returned (.bool true) ∧ ∃ A c, Tab w' g A c [fab] 100 ∧ Below g w w' := by
  refine (add_any h fab ⟨by decide, by decide⟩).mono ?_
  rintro e w' ⟨he, A', c', hT, hk, _⟩
  refine ⟨he, A', c', hT, hk.below (Nat.le_of_lt h.blk.lt) ?_⟩
  rintro i (rfl | ⟨a, ha, _⟩)
  · exact Nat.le_refl _
  · cases ha
set_option maxRecDepth 100000 in
set_option maxHeartbeats 4000000 in
theorem tableKeeps_bad (m : Int) (hm : m < 0 ∨ 4096 < m) (l : List Fld) (A : Option Addr) (c : Nat) (w : World) :
    Calls Try.prog 5 #[.int .i64 m, .slice A l.length c] w fun e w' => e = .returned (.bool true) ∧ Below w.heap.size w w' := by
  have HM := Lib.hid hm
  clear hm
  go_enter Try.func5, Try.ntmps5
  go_wp2_with fail
  refine (new_yes 100 (by omega) w).mono ?_
  rintro e w1 ⟨rfl, hT1, hb1, _⟩
  go_wp2_with fail
  refine (add_fab hT1).mono ?_
  rintro e w2 ⟨rfl, A2, c2, hT2, hb2⟩
  go_wp2_with fail
  refine (get_at hT2 13 (by omega) (by simp) fab rfl).mono ?_
  rintro e w3 ⟨rfl, hb3⟩
  have hT3 := hT2.below hb3
  have hb12 := hb1.trans hb2
  have hb13 := Lib.hid (hb12.trans (hb3.mono hb12.size))
  clear hT1 hb1 hT2 hb2 hb3 hb12
  go_wp2_with fail
  refine (tsize_any (hT3.below ((Below.refl _ _).alloc (Nat.le_refl _) _))).mono ?_
  rintro e w' ⟨rfl, rfl⟩
  rw [wt_fab]
  clear hT3
  have hb4 := Lib.hid (hb13.out.alloc hb13.out.size (.cells #[.string ⟨fab.1.toArray⟩, .string ⟨fab.2.toArray⟩] 40))
  clear hb13
  go_wp2_with fail
  refine (new_no m HM.out _).mono ?_
  rintro e w' ⟨rfl, rfl⟩
  go_wp2
  go_ret
  exact ⟨rfl, hb4.out⟩

theorem below_dT {B : Nat} {a w : World} (h : Below B a w) (n : Nat) : Below B a (w.drewN n) := ⟨h.os, h.tape, h.output, h.size, h.block⟩
theorem both {w wn wm : World} {g c m : Nat} {A : Option Addr} {xs : List Fld} (hT : Tab wn g A c xs m) (hB : Below w.heap.size w wn) (hb : Below wn.heap.size wn wm) : Tab wm g A c xs m ∧ Below w.heap.size w wm :=
  ⟨hT.below hb, hB.trans (hb.mono hB.size)⟩
theorem fld_at {w w1 : World} {b off : Nat} {l : List Fld} (h : Reads w w.heap.size 2 (some ⟨b, off, none⟩) l.length (fvs l)) (hb : Below w.heap.size w w1) {k : Nat} (hk : k < l.length) :
    w1.cell? ⟨b, off + k * 2, none⟩ = some (.string ⟨l[k].1.toArray⟩) ∧ w1.cell? ⟨b, off + k * 2 + 1, none⟩ = some (.string ⟨l[k].2.toArray⟩) := by
  obtain ⟨b', off', he, _, hcl⟩ := reads_fld (h.below hb) (by omega)
  cases he
  exact hcl k hk
/-- A table in a world behind another one. -/
def TB (w w' : World) (g : Nat) (A : Option Addr) (c : Nat) (xs : List Fld) (m : Nat) : Prop := Tab w' g A c xs m ∧ Below w.heap.size w w'
theorem TB.drew {w w' : World} {g c m : Nat} {A : Option Addr} {xs : List Fld} (h : TB w w' g A c xs m) : TB w w'.drew g A c xs m :=
  ⟨h.1.below ⟨rfl, rfl, rfl, Nat.le_refl _, fun _ _ => rfl⟩, h.2.drew⟩
theorem TB.next {w w' w1 : World} {g c m : Nat} {A : Option Addr} {xs : List Fld} (h : TB w w' g A c xs m) (hb : Below w'.heap.size w' w1) : TB w w1 g A c xs m := both h.1 h.2 hb
/-- Where the table stands between two rounds. -/
def Here (w wr : World) (g m : Nat) : Prop := ∃ A c xs, Tab wr g A c xs m ∧ wt xs ≤ m ∧ Below w.heap.size w wr ∧ ∀ k, tOwn g A k → w.heap.size ≤ k
theorem Here.added {w wr w1 : World} {g m : Nat} {A : Option Addr} {xs : List Fld} {f : Fld} (hB : Below w.heap.size w wr) (hf : ∀ k, tOwn g A k → w.heap.size ≤ k) (h : Added wr w1 g A m xs f) :
    ∃ A1 c1, Tab w1 g A1 c1 (tAdd m xs f) m ∧ Below w.heap.size w w1 ∧ ∀ k, tOwn g A1 k → w.heap.size ≤ k := by
  obtain ⟨A1, c1, hT, hk, hfr⟩ := h
  refine ⟨A1, c1, hT, hB.trans (hk.below hB.size hf), fun k hk1 => ?_⟩
  rcases hfr k hk1 with h1 | h1
  · exact hf k h1
  · exact Nat.le_trans hB.size h1

set_option maxRecDepth 100000 in
set_option maxHeartbeats 8000000 in
theorem tableKeeps_walk (m : Nat) (hm : m ≤ 4096) (l : List Fld) (A : Option Addr) (c : Nat) (w : World) (hcap : l.length ≤ c) (hl : l.length ≤ 140737488355328) (hfs : ∀ f ∈ l, fOk f) (hr : Reads w w.heap.size 2 A l.length (fvs l)) :
    Calls Try.prog 5 #[.int .i64 (m : Int), .slice A l.length c] w fun e w' => e = .returned (.bool true) ∧ Below w.heap.size w w' := by
  go_enter Try.func5, Try.ntmps5
  go_wp2_with fail
  refine (new_yes 100 (by omega) w).mono ?_
  rintro e w1 ⟨rfl, hT1, hb1, _⟩
  go_wp2_with fail
  refine (add_fab hT1).mono ?_
  rintro e w2 ⟨rfl, A2, c2, hT2, hb2⟩
  go_wp2_with fail
  refine (get_at hT2 13 (by omega) (by simp) fab rfl).mono ?_
  rintro e w3 ⟨rfl, hb3⟩
  have hT3 := hT2.below hb3
  have hb12 := hb1.trans hb2
  have hb13 := Lib.hid (hb12.trans (hb3.mono hb12.size))
  clear hT1 hb1 hT2 hb2 hb3 hb12
  go_wp2_with fail
  refine (tsize_any (hT3.below ((Below.refl _ _).alloc (Nat.le_refl _) _))).mono ?_
  rintro e w' ⟨rfl, rfl⟩
  rw [wt_fab]
  clear hT3
  have hb4 := Lib.hid (hb13.out.alloc hb13.out.size (.cells #[.string ⟨fab.1.toArray⟩, .string ⟨fab.2.toArray⟩] 40))
  clear hb13
  go_wp2_with fail
  refine (new_yes m hm _).mono ?_
  rintro e w5 ⟨rfl, hT5, hb5, hs5⟩
  have hH : Here w w5 (w3.alloc (.cells #[.string ⟨fab.1.toArray⟩, .string ⟨fab.2.toArray⟩] 40)).heap.size m := by
    refine ⟨none, 0, [], hT5, by simp [wt], hb4.out.trans (hb5.mono hb4.out.size), ?_⟩
    rintro k (rfl | ⟨a, ha, _⟩)
    · exact hb4.out.size
    · cases ha
  clear hT5 hs5 hb5
  simp only [World.size_alloc] at hH
  have HH := Lib.hid hH
  have HFS := Lib.hid hfs
  have HRR := Lib.hid hr
  clear hH hfs hr
  go_wp2
  generalize w3.heap.size + 1 = g at *
  go_loopw [12] (fun i wr => ∃ k : Nat, k ≤ l.length ∧ i = .int .i64 (k : Int) ∧ Hid (Here w wr g m)) (fun i _ => l.length - (intOf i).toNat)
  case atStart => exact ⟨0, Nat.zero_le _, rfl, HH⟩
  case round =>
    obtain ⟨k, hk, rfl, HR⟩ := hrel
    clear HH
    by_cases hlt : k < l.length
    · obtain ⟨A1, c1, xs, hT, hw, hB, hfr⟩ := HR.out
      have hr1 := HRR.out.below hB
      obtain ⟨b, off, rfl, hbB, hcl⟩ := reads_fld hr1 (by omega)
      obtain ⟨e0, e1⟩ := hcl k hlt
      have hf := HFS.out l[k] (List.getElem_mem hlt)
      have HT := Lib.hid hT
      have HB := Lib.hid hB
      have HFR := Lib.hid hfr
      have HR1 := Lib.hid hr1
      have HF := Lib.hid hf
      have HCL := Lib.hid (fun (w1 : World) (hb : Below w.heap.size w w1) => fld_at HRR.out hb hlt)
      clear hcl hT hB hfr hr1 hf
      generalize l[k] = f at *
      by_cases h60 : k < 60
      · by_cases hok : fsz f ≤ m
        · have hok2 : decide (fsz f ≤ m) = true := by simpa using hok
          have hok3 : ((fsz f : Nat) : Int) ≤ (m : Int) := by omega
          obtain ⟨zs, hz⟩ : ∃ zs, tAdd m xs f = f :: zs := ⟨_, tAdd_yes (by omega)⟩
          have hwz := wt_tAdd m xs f
          have HZ := Lib.hid hz
          rw [hz] at hwz
          have HW2 := Lib.hid hwz
          have hwd : ((wt (f :: zs) : Nat) : Int) ≤ (m : Int) := by omega
          clear hz
          have HOK2 := Lib.hid hok2
          have HWD := Lib.hid hwd
          clear hok2 hok3 hwd hwz hw hok
          go_wp2_with fail
          with_reducible refine (add_any HT.out f HF.out).mono ?_
          rintro e w6 ⟨rfl, hAdd⟩
          rw [HOK2.out]
          obtain ⟨A2, c2, hT2, hB2, hfr2⟩ := Here.added HB.out HFR.out hAdd
          rw [HZ.out] at hT2
          have HT2 := Lib.hid hT2
          have HB2 := Lib.hid hB2
          have HFR2 := Lib.hid hfr2
          obtain ⟨e2, e3⟩ := HCL.out _ hB2
          clear hT2 hB2 hfr2 hAdd e0 e1
          go_wp2_with fail
          with_reducible refine (tsize_any HT2.out).mono ?_
          rintro e w' ⟨rfl, rfl⟩
          have hwd := HWD.out
          generalize wt (f :: zs) = W at hwd ⊢
          go_wp2_with fail
          with_reducible refine (rsize_any f HF.out _).mono ?_
          rintro e w7 ⟨rfl, hb7⟩
          obtain ⟨hT7, hB7⟩ := both HT2.out HB2.out hb7
          have HT7 := Lib.hid hT7
          have HB7 := Lib.hid hB7
          have hok3 : ((fsz f : Nat) : Int) ≤ (m : Int) := by have := of_decide_eq_true HOK2.out; omega
          clear hT7 hB7 hb7 e2 e3
          go_wp2_with fail
          refine (get_at HT7.out 13 (by omega) (by simp only [List.length_cons]; omega) f rfl).mono ?_
          rintro e w8 ⟨rfl, hb8⟩
          obtain ⟨hT8, hB8⟩ := both HT7.out HB7.out hb8
          have HT8 := Lib.hid hT8
          have HB8 := Lib.hid hB8
          obtain ⟨e4, e5⟩ := HCL.out _ hB8
          have hbw8 := Nat.lt_of_lt_of_le hbB hB8.size
          clear hT8 hB8 hb8
          go_wp2
          go_quiet (fail)
          obtain ⟨hT9, hB9⟩ := both HT8.out HB8.out (below_dT ((Below.refl _ _).alloc (Nat.le_refl _) (.cells #[.string ⟨f.1.toArray⟩, .string ⟨f.2.toArray⟩] 40)) nq)
          have HT9 := Lib.hid hT9
          have HB9 := Lib.hid hB9
          clear hT9 hB9 e4 e5 hbw8
          generalize World.drewN _ nq = w9 at *
          have HXS := Lib.hid (found f zs)
          obtain ⟨hp1, hq1, hqp⟩ := HXS.out
          obtain ⟨p, hpe⟩ : ∃ p, fnd (isF f) (tAll (f :: zs)) = p := ⟨_, rfl⟩
          obtain ⟨q, hqe⟩ : ∃ q, fnd (isN f) (tAll (f :: zs)) = q := ⟨_, rfl⟩
          have HP := Lib.hid hpe
          have HQ := Lib.hid hqe
          rw [hpe] at hp1 hqp
          rw [hqe] at hq1 hqp
          clear hpe hqe
          obtain ⟨e6, e7⟩ := HCL.out _ HB9.out
          go_wp2_with fail
          with_reducible refine (find_any HT9.out f HF.out).mono ?_
          rw [HP.out, HQ.out]
          rintro e w10 ⟨rfl, hb10⟩
          obtain ⟨hT10, hB10⟩ := both HT9.out HB9.out hb10
          have HT10 := Lib.hid hT10
          have HB10 := Lib.hid hB10
          clear hT10 hB10 hb10 e6 e7
          have hfw := found_is (p := isF f) (xs := (f :: zs)) (by rw [HP.out]; omega)
          rw [HP.out, isF_iff] at hfw
          obtain ⟨hfw1, hfw2⟩ := hfw
          have HFW : Hid ((tAll (f :: zs)).getD (p - 1) ([], []) = f) := Prod.ext hfw2.1 hfw2.2
          clear hfw2
          go_wp2_with fail
          with_reducible refine (get_at HT10.out p (by omega) (by have := hfw1; simp only [List.length_cons, List.length_nil] at this ⊢; omega) f HFW.out).mono ?_
          rintro e w11 ⟨rfl, hb11⟩
          obtain ⟨hT11, hB11⟩ := both HT10.out HB10.out hb11
          have HT11 := Lib.hid hT11
          have HB11 := Lib.hid hB11
          obtain ⟨e4, e5⟩ := HCL.out _ hB11
          have hbw := Nat.lt_of_lt_of_le hbB hB11.size
          clear hT11 hB11 hb11
          go_wp2
          go_quiet (fail)
          obtain ⟨hT12, hB12⟩ := both HT11.out HB11.out (below_dT ((Below.refl _ _).alloc (Nat.le_refl _) (.cells #[.string ⟨f.1.toArray⟩, .string ⟨f.2.toArray⟩] 40)) nq)
          have HT12 := Lib.hid hT12
          have HB12 := Lib.hid hB12
          clear hT12 hB12 e4 e5 hbw
          generalize World.drewN _ nq = w12 at *
          have hfn := found_is (p := isN f) (xs := (f :: zs)) (by rw [HQ.out]; omega)
          rw [HQ.out, isN_iff] at hfn
          obtain ⟨hfn1, hfn2⟩ := hfn
          obtain ⟨x2, hx2⟩ : ∃ x2, (tAll (f :: zs)).getD (q - 1) ([], []) = (f.1, x2) := ⟨((tAll (f :: zs)).getD (q - 1) ([], [])).2, Prod.ext hfn2 rfl⟩
          have HX2 := Lib.hid hx2
          clear hx2 hfn2
          go_wp2_with fail
          with_reducible refine (get_at HT12.out q (by omega) (by have := hfn1; simp only [List.length_cons, List.length_nil] at this ⊢; omega) (f.1, x2) HX2.out).mono ?_
          rintro e w13 ⟨rfl, hb13⟩
          obtain ⟨hT13, hB13⟩ := both HT12.out HB12.out hb13
          have HT13 := Lib.hid hT13
          have HB13 := Lib.hid hB13
          obtain ⟨e4, e5⟩ := HCL.out _ hB13
          have hbw := Nat.lt_of_lt_of_le hbB hB13.size
          clear hT13 hB13 hb13
          go_wp2
          go_quiet (fail)
          obtain ⟨hT14, hB14⟩ := both HT13.out HB13.out (below_dT ((Below.refl _ _).alloc (Nat.le_refl _) (.cells #[.string ⟨(f.1, x2).1.toArray⟩, .string ⟨(f.1, x2).2.toArray⟩] 40)) nq)
          have HT14 := Lib.hid hT14
          have HB14 := Lib.hid hB14
          clear hT14 hB14 e4 e5 hbw
          generalize World.drewN _ nq = w14 at *
          go_wp2
          go_roundw
          case rel => exact ⟨k + 1, by omega, by go_num, _, _, _, HT14.out, HW2.out, HB14.out, HFR2.out⟩
          case measure => simp [intOf]; omega
        · have hok2 : decide (fsz f ≤ m) = false := by simp; omega
          have hok3 : (m : Int) < ((fsz f : Nat) : Int) := by omega
          have HOK2 := Lib.hid hok2
          have HOK3 := Lib.hid hok3
          have hno : m < fsz f := by omega
          have HW2 : Hid (wt [] ≤ m) := Nat.zero_le _
          clear hok2 hok3 hok hw
          go_wp2_with fail
          with_reducible refine (add_any HT.out f HF.out).mono ?_
          rintro e w6 ⟨rfl, hAdd⟩
          rw [HOK2.out]
          obtain ⟨A2, c2, hT2, hB2, hfr2⟩ := Here.added HB.out HFR.out hAdd
          rw [tAdd_no hno] at hT2
          have HT2 := Lib.hid hT2
          have HB2 := Lib.hid hB2
          have HFR2 := Lib.hid hfr2
          obtain ⟨e2, e3⟩ := HCL.out _ hB2
          clear hT2 hB2 hfr2 hAdd e0 e1 hno
          go_wp2_with fail
          with_reducible refine (tsize_any HT2.out).mono ?_
          rintro e w' ⟨rfl, rfl⟩
          rw [wt_nil]
          have hwd : (0 : Int) ≤ (m : Int) := by omega
          go_wp2_with fail
          with_reducible refine (rsize_any f HF.out _).mono ?_
          rintro e w7 ⟨rfl, hb7⟩
          obtain ⟨hT7, hB7⟩ := both HT2.out HB2.out hb7
          have HT7 := Lib.hid hT7
          have HB7 := Lib.hid hB7
          have hok3 := HOK3.out
          clear hT7 hB7 hb7 e2 e3
          go_wp2_with fail
          with_reducible refine (get_no HT7.out 13 (.inr (by simp))).mono ?_
          rintro e w8 ⟨rfl, hb8⟩
          obtain ⟨hT8, hB8⟩ := both HT7.out HB7.out hb8
          have h8 := both hT8 hB8 (((Below.refl _ _).alloc (Nat.le_refl _) (.cells #[.string ⟨#[]⟩, .string ⟨#[]⟩] 40)).drew)
          have HT8 := Lib.hid h8.1
          have HB8 := Lib.hid h8.2
          clear hT8 hB8 hb8 h8
          go_wp2
          refine quiet_in (fun w' => TB w w' g A2 c2 [] m) (by kernel_rfl) (by kernel_rfl) ?_ fun hne => ?_
          · exact ⟨HT8.out, HB8.out⟩
          repeat (first | go_big_quiet_skip | (go_big_quiet_want; go_big_quiet_op; go_big_quiet_on))
          go_big_quiet_want
          go_big_quiet_op
          refine ⟨_, fun x => quiet_call (len_any x.h.1) (fun e w9 h9 => ⟨h9.1, TB.next x.h h9.2⟩), ?_⟩
          go_big_quiet_on
          repeat (first | go_big_quiet_skip | (go_big_quiet_want; go_big_quiet_op; go_big_quiet_on))
          go_big_quiet_want
          go_big_quiet_op
          refine ⟨_, fun x => quiet_call (tsize_any x.h.1) (fun e w9 h9 => ⟨h9.1, h9.2 ▸ x.h⟩), ?_⟩
          go_big_quiet_on
          repeat (first | go_big_quiet_skip | (go_big_quiet_want; go_big_quiet_op; go_big_quiet_on))
          refine wpQuiet_nil ?_
          intro w9 hw9
          have hC9 : TB w w9 g A2 c2 [] m := by
            obtain ⟨x, hx⟩ := hw9
            rw [hx]
            exact x.h
          clear hne hw9
          have HT9 := Lib.hid hC9.1
          have HB9 := Lib.hid hC9.2
          clear hC9
          obtain ⟨p, hpe⟩ : ∃ p, fnd (isF f) (tAll []) = p := ⟨_, rfl⟩
          obtain ⟨q, hqe⟩ : ∃ q, fnd (isN f) (tAll []) = q := ⟨_, rfl⟩
          have HP := Lib.hid hpe
          have HQ := Lib.hid hqe
          clear hpe hqe
          obtain ⟨e6, e7⟩ := HCL.out _ HB9.out
          go_wp2_with fail
          with_reducible refine (find_any HT9.out f HF.out).mono ?_
          rw [HP.out, HQ.out]
          rintro e w10 ⟨rfl, hb10⟩
          obtain ⟨hT10, hB10⟩ := both HT9.out HB9.out hb10
          have HT10 := Lib.hid hT10
          have HB10 := Lib.hid hB10
          clear hT10 hB10 hb10 e6 e7
          by_cases hq0 : 0 < q
          · by_cases hp0 : 0 < p
            · have hfw := found_is (p := isF f) (xs := []) (by rw [HP.out]; omega)
              rw [HP.out, isF_iff] at hfw
              obtain ⟨hfw1, hfw2⟩ := hfw
              have HFW : Hid ((tAll []).getD (p - 1) ([], []) = f) := Prod.ext hfw2.1 hfw2.2
              clear hfw2
              go_wp2_with fail
              with_reducible refine (get_at HT10.out p (by omega) (by have := hfw1; simp only [List.length_cons, List.length_nil] at this ⊢; omega) f HFW.out).mono ?_
              rintro e w11 ⟨rfl, hb11⟩
              obtain ⟨hT11, hB11⟩ := both HT10.out HB10.out hb11
              have HT11 := Lib.hid hT11
              have HB11 := Lib.hid hB11
              obtain ⟨e4, e5⟩ := HCL.out _ hB11
              have hbw := Nat.lt_of_lt_of_le hbB hB11.size
              clear hT11 hB11 hb11
              go_wp2
              go_quiet (fail)
              obtain ⟨hT12, hB12⟩ := both HT11.out HB11.out (below_dT ((Below.refl _ _).alloc (Nat.le_refl _) (.cells #[.string ⟨f.1.toArray⟩, .string ⟨f.2.toArray⟩] 40)) nq)
              have HT12 := Lib.hid hT12
              have HB12 := Lib.hid hB12
              clear hT12 hB12 e4 e5 hbw
              generalize World.drewN _ nq = w12 at *
              have hfn := found_is (p := isN f) (xs := []) (by rw [HQ.out]; omega)
              rw [HQ.out, isN_iff] at hfn
              obtain ⟨hfn1, hfn2⟩ := hfn
              obtain ⟨x2, hx2⟩ : ∃ x2, (tAll []).getD (q - 1) ([], []) = (f.1, x2) := ⟨((tAll []).getD (q - 1) ([], [])).2, Prod.ext hfn2 rfl⟩
              have HX2 := Lib.hid hx2
              clear hx2 hfn2
              go_wp2_with fail
              with_reducible refine (get_at HT12.out q (by omega) (by have := hfn1; simp only [List.length_cons, List.length_nil] at this ⊢; omega) (f.1, x2) HX2.out).mono ?_
              rintro e w13 ⟨rfl, hb13⟩
              obtain ⟨hT13, hB13⟩ := both HT12.out HB12.out hb13
              have HT13 := Lib.hid hT13
              have HB13 := Lib.hid hB13
              obtain ⟨e4, e5⟩ := HCL.out _ hB13
              have hbw := Nat.lt_of_lt_of_le hbB hB13.size
              clear hT13 hB13 hb13
              go_wp2
              go_quiet (fail)
              obtain ⟨hT14, hB14⟩ := both HT13.out HB13.out (below_dT ((Below.refl _ _).alloc (Nat.le_refl _) (.cells #[.string ⟨(f.1, x2).1.toArray⟩, .string ⟨(f.1, x2).2.toArray⟩] 40)) nq)
              have HT14 := Lib.hid hT14
              have HB14 := Lib.hid hB14
              clear hT14 hB14 e4 e5 hbw
              generalize World.drewN _ nq = w14 at *
              go_wp2
              go_roundw
              case rel => exact ⟨k + 1, by omega, by go_num, _, _, _, HT14.out, HW2.out, HB14.out, HFR2.out⟩
              case measure => simp [intOf]; omega
            · obtain rfl : p = 0 := by omega
              have hfn := found_is (p := isN f) (xs := []) (by rw [HQ.out]; omega)
              rw [HQ.out, isN_iff] at hfn
              obtain ⟨hfn1, hfn2⟩ := hfn
              obtain ⟨x2, hx2⟩ : ∃ x2, (tAll []).getD (q - 1) ([], []) = (f.1, x2) := ⟨((tAll []).getD (q - 1) ([], [])).2, Prod.ext hfn2 rfl⟩
              have HX2 := Lib.hid hx2
              clear hx2 hfn2
              go_wp2_with fail
              with_reducible refine (get_at HT10.out q (by omega) (by have := hfn1; simp only [List.length_cons, List.length_nil] at this ⊢; omega) (f.1, x2) HX2.out).mono ?_
              rintro e w11 ⟨rfl, hb11⟩
              obtain ⟨hT11, hB11⟩ := both HT10.out HB10.out hb11
              have HT11 := Lib.hid hT11
              have HB11 := Lib.hid hB11
              obtain ⟨e4, e5⟩ := HCL.out _ hB11
              have hbw := Nat.lt_of_lt_of_le hbB hB11.size
              clear hT11 hB11 hb11
              go_wp2
              go_quiet (fail)
              obtain ⟨hT12, hB12⟩ := both HT11.out HB11.out (below_dT ((Below.refl _ _).alloc (Nat.le_refl _) (.cells #[.string ⟨(f.1, x2).1.toArray⟩, .string ⟨(f.1, x2).2.toArray⟩] 40)) nq)
              have HT12 := Lib.hid hT12
              have HB12 := Lib.hid hB12
              clear hT12 hB12 e4 e5 hbw
              generalize World.drewN _ nq = w12 at *
              go_wp2
              go_roundw
              case rel => exact ⟨k + 1, by omega, by go_num, _, _, _, HT12.out, HW2.out, HB12.out, HFR2.out⟩
              case measure => simp [intOf]; omega
          · obtain rfl : q = 0 := by omega
            have hp00 : p = 0 := by
              rcases Nat.eq_zero_or_pos p with h0 | h0
              · exact h0
              · exact absurd HQ.out (fnd_names f _ (by rw [HP.out]; omega))
            subst hp00
            go_wp2
            go_roundw
            case rel => exact ⟨k + 1, by omega, by go_num, _, _, _, HT10.out, HW2.out, HB10.out, HFR2.out⟩
            case measure => simp [intOf]; omega

      · have h61 : decide ((k : Int) < 60) = false := by simp; omega
        clear e0 e1
        go_wp2
        go_ret
        exact ⟨rfl, HB.out⟩
    · obtain ⟨A1, c1, xs, hT, hw, hB, hfr⟩ := HR.out
      have HB := Lib.hid hB
      clear hT hw hB hfr
      go_wp2
      go_ret
      exact ⟨rfl, HB.out⟩
theorem tableKeeps_any (m : Int) (l : List Fld) (A : Option Addr) (c : Nat) (w : World) (hcap : l.length ≤ c) (hl : l.length ≤ 140737488355328) (hfs : ∀ f ∈ l, fOk f) (hr : Reads w w.heap.size 2 A l.length (fvs l)) :
    Calls Try.prog 5 #[.int .i64 m, .slice A l.length c] w fun e w' => e = .returned (.bool true) ∧ Below w.heap.size w w' := by
  by_cases h : m < 0 ∨ 4096 < m
  · exact tableKeeps_bad m h l A c w
  · obtain ⟨k, rfl⟩ := Int.eq_ofNat_of_zero_le (show 0 ≤ m by omega)
    exact tableKeeps_walk k (by omega) l A c w hcap hl hfs hr
end Go.Proofs.Ytkbbkamnmdeagaa
