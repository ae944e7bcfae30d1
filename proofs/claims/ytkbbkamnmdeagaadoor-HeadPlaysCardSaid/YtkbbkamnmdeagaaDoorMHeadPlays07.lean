/-
  Slices of bytes that are read: their middle, their head; worlds that differ by draws. No condition.
  The text that bytes begin with: the contract of head.ReadText. Condition: the bound on the row's length.
  Fields in memory; table.Size, table.right, table.New, the table's own small words. Condition: the texts' lengths.
-/
import Derived.Test.YtkbbkamnmdeagaaDoorMHeadPlays05
import Derived.Test.YtkbbkamnmdeagaaDoorMHeadPlays06
import Derived.Deep.QuietTactic
import Derived.BigQuiet
import Derived.Test.YtkbbkamnmdeagaaDoorMHeadPlays03
namespace Go.Proofs.YtkbbkamnmdeagaaDoor
open Go.RowKit

theorem reads_mid {w : World} {B b off at_ n c : Nat} {l : List UInt8} (h : Reads w B 1 (some ⟨b, off, none⟩) l.length (bs l)) (hn : at_ + n ≤ l.length) (hc : l.length ≤ c) :
    Reads w B 1 (if c = at_ then some ⟨b, off, none⟩ else some ⟨b, off + at_, none⟩) n (bs ((l.drop at_).take n)) := by
  refine ⟨by simp [bs]; omega, fun h0 => ?_⟩
  obtain ⟨b', off', he, hb, hcl⟩ := h.form (by omega)
  cases he
  rw [if_neg (by omega)]
  refine ⟨_, rfl, hb, fun j u hj => ?_⟩
  have hj2 : j < n := by
    have hl := (List.getElem?_eq_some_iff.1 hj).1
    simp [bs] at hl
    omega
  have e : (bs l)[at_ + j]? = some u := by
    rw [← hj]
    simp [bs, List.getElem?_take, hj2]
  have := hcl (at_ + j) u e
  rw [Addr.add_lit]
  rwa [← Nat.add_assoc] at this

theorem below_dN {B : Nat} {a w : World} (h : Below B a w) (n : Nat) : Below B a (w.drewN n) := ⟨h.os, h.tape, h.output, h.size, h.block⟩
theorem reads_head {w : World} {B : Nat} {A : Option Addr} {l : List UInt8} (h : Reads w B 1 A l.length (bs l)) (h0 : 0 < l.length) :
    ∃ b off y, A = some ⟨b, off, none⟩ ∧ b < B ∧ w.cell? ⟨b, off, none⟩ = some (.int .u8 ((y : Nat) : Int)) ∧ (l.headD 0).toNat = y ∧ y < 256 := by
  obtain ⟨b, off, rfl, hb, hc⟩ := reads_byte h (k := 0) h0
  refine ⟨b, off, (l.headD 0).toNat, rfl, hb, ?_, rfl, (l.headD 0).toNat_lt⟩
  cases l with
  | nil => simp at h0
  | cons c r => exact hc
end Go.Proofs.YtkbbkamnmdeagaaDoor
namespace Go.Proofs.YtkbbkamnmdeagaaDoor
open Go.RowKit

section
variable {l : List UInt8} {N U : Nat}
theorem readT_err {E : Nat} (h : getV l 7 = (N, U, E)) (hE : E ≠ 0) : readT l = ([], 0, E) := by simp [readT, h, hE]
theorem readT_full (h : getV l 7 = (N, U, 0)) (h4 : 400 < N) : readT l = ([], 0, 4) := by simp [readT, h, h4]
theorem readT_short (h : getV l 7 = (N, U, 0)) (h4 : ¬ 400 < N) (h5 : l.length < U + N) : readT l = ([], 0, 8) := by simp [readT, h, h4, h5]
theorem readT_none (h : getV l 7 = (N, U, 0)) (h4 : ¬ 400 < N) (h5 : ¬ l.length < U + N) (h6 : 128 ≤ (l.headD 0).toNat) (hd : decode ((l.drop U).take N) = none) : readT l = ([], 0, 2) := by
  simp only [readT, h, if_pos h6, hd]
  rw [if_neg (by simp), if_neg h4, if_neg h5]
theorem readT_some {s : List UInt8} (h : getV l 7 = (N, U, 0)) (h4 : ¬ 400 < N) (h5 : ¬ l.length < U + N) (hd : (if 128 ≤ (l.headD 0).toNat then decode ((l.drop U).take N) else some ((l.drop U).take N)) = some s) :
    readT l = if 400 < s.length then ([], 0, 4) else if txtL s = l.take (U + N) then (s, U + N, 0) else ([], 0, 2) := by
  simp only [readT, h, hd]
  rw [if_neg (by simp), if_neg h4, if_neg h5]
end
theorem htext_gave (l : List UInt8) (w : World) (hlm : l.length ≤ 140737488355328) :
    Calls Tryd.prog 34 #[.string ⟨l.toArray⟩] w fun e w' => ∃ A c, e = .returned (.tuple #[.slice A (txtL l).length c, errV (txtE l)]) ∧ Gave w w' (txtL l) A c := by
  refine (htext_any l w hlm).mono ?_
  rintro e w' ⟨v, he, hown, hb⟩
  obtain ⟨A, c, rfl, hg⟩ := gave_of_own hown hb
  exact ⟨A, c, he, hg⟩
theorem decode_len {l s : List UInt8} (h : decode l = some s) : s.length ≤ 2 * l.length := by
  have h1 := enc_decode l s h
  have h2 := enc_length s
  rw [h1] at h2
  have h3 : ∀ s : List UInt8, 6 * s.length ≤ (encBits s).length := by
    intro s
    induction s with
    | nil => simp
    | cons c s ih =>
      rw [encBits_cons, List.length_append, cw_length, List.length_cons]
      split <;> omega
  have := h3 s
  omega
theorem decode_is (l s : List UInt8) (h : decode l = some s) (hl : l.length ≤ 1099511627776) (A : Option Addr) (n c : Nat) (hn : n = l.length) (w : World) (hr : Reads w w.heap.size 1 A l.length (bs l)) :
    Calls Tryd.prog 26 #[.slice A n c] w fun e w' => e = .returned (.tuple #[.string ⟨s.toArray⟩, .nilIface]) ∧ Below w.heap.size w w' := by
  refine (decode_any l hl A n c hn w hr).mono ?_
  rintro e w' ⟨he, hb⟩
  simpa [decS, decE, h, errV] using And.intro he hb
theorem decode_not (l : List UInt8) (h : decode l = none) (hl : l.length ≤ 1099511627776) (A : Option Addr) (n c : Nat) (hn : n = l.length) (w : World) (hr : Reads w w.heap.size 1 A l.length (bs l)) :
    Calls Tryd.prog 26 #[.slice A n c] w fun e w' => e = .returned (.tuple #[.string ⟨#[]⟩, .iface 113 (.int .i64 2)]) ∧ Below w.heap.size w w' := by
  refine (decode_any l hl A n c hn w hr).mono ?_
  rintro e w' ⟨he, hb⟩
  simpa [decS, decE, h, errV] using And.intro he hb

set_option maxRecDepth 100000 in
set_option maxHeartbeats 4000000 in
theorem hread_any (l : List UInt8) (A : Option Addr) (n c : Nat) (hn : n = l.length) (hcap : l.length ≤ c) (hm : l.length ≤ 140737488355328) (w : World) (hr : Reads w w.heap.size 1 A l.length (bs l)) :
    Calls Tryd.prog 36 #[.slice A n c] w fun e w' => e = .returned (.tuple #[.string ⟨(readT l).1.toArray⟩, .int .i64 ((readT l).2.1 : Nat), errV (readT l).2.2]) ∧ Below w.heap.size w w' := by
  subst hn
  obtain ⟨N, U, E, hV⟩ : ∃ N U E, getV l 7 = (N, U, E) := ⟨_, _, _, rfl⟩
  by_cases hE : E ≠ 0
  · rw [readT_err hV hE, errV_pos hE]
    have HV := Lib.hid hV
    have HE := Lib.hid hE
    clear hV hE
    go_enter Tryd.func36, Tryd.ntmps36
    go_wp2_with fail
    refine (wget_any l 7 A _ c rfl hcap hm _ w hr).mono ?_
    rintro e w' ⟨rfl, rfl⟩
    rw [HV.out, errV_pos HE.out]
    go_wp2
    go_ret3
    exact ⟨rfl, Below.refl _ _⟩
  have hE0 : E = 0 := Decidable.not_not.1 hE
  subst hE0
  clear hE
  have hu := getV_used (l := l) (t := 7) (by rw [hV])
  rw [hV] at hu
  simp only at hu
  obtain ⟨hu1, hu2, hu3⟩ := hu
  by_cases h4 : 400 < N
  · rw [readT_full hV h4, errV_pos (by decide)]
    have HV := Lib.hid hV
    clear hV
    go_enter Tryd.func36, Tryd.ntmps36
    go_wp2_with fail
    refine (wget_any l 7 A _ c rfl hcap hm _ w hr).mono ?_
    rintro e w' ⟨rfl, rfl⟩
    rw [HV.out, errV_zero]
    go_wp2
    go_ret3
    exact ⟨rfl, Below.refl _ _⟩
  by_cases h5 : l.length < U + N
  · rw [readT_short hV h4 h5, errV_pos (by decide)]
    have HV := Lib.hid hV
    clear hV
    go_enter Tryd.func36, Tryd.ntmps36
    go_wp2_with fail
    refine (wget_any l 7 A _ c rfl hcap hm _ w hr).mono ?_
    rintro e w' ⟨rfl, rfl⟩
    rw [HV.out, errV_zero]
    go_wp2
    go_ret3
    exact ⟨rfl, Below.refl _ _⟩
  obtain ⟨b, off, y0, rfl, hbB, hcell, hhd, hy0⟩ := reads_head hr (by omega)
  have hmid := reads_mid (c := c) hr (at_ := U) (n := N) (by omega) hcap
  have hlen : ((l.drop U).take N).length = N := by simp; omega
  have htake := hr.take (k := U + N) (by omega)
  rw [bs_take] at htake
  have hlt : (l.take (U + N)).length = U + N := by simp; omega
  obtain ⟨mid, hmidL⟩ : ∃ mid, (l.drop U).take N = mid := ⟨_, rfl⟩
  obtain ⟨all, hallL⟩ : ∃ all, l.take (U + N) = all := ⟨_, rfl⟩
  obtain ⟨A1, hA1⟩ : ∃ A1, (if c = U then some (⟨b, off, none⟩ : Addr) else some ⟨b, off + U, none⟩) = A1 := ⟨_, rfl⟩
  rw [hmidL] at hmid hlen
  rw [hallL] at htake hlt
  rw [hA1] at hmid
  have hk := fun (W : World) (hW : Below w.heap.size w W) => run_str (w := W) (A := A1) (l := mid) (by rw [hlen]; exact hmid.below hW)
  rw [hlen] at hk
  have HHmid := Lib.hid hmidL
  have HHall := Lib.hid hallL
  have HA := Lib.hid hA1
  have hhi : U + N ≤ l.length := by omega
  by_cases h128 : 128 ≤ y0
  · cases hD : decode mid with
    | none =>
      rw [readT_none hV h4 h5 (by rw [hhd]; exact h128) (by rw [hmidL]; exact hD), errV_pos (by decide)]
      have HV := Lib.hid hV
      have hk0 := hk w (Below.refl _ _) (c - U)
      have HD := Lib.hid hD
      have hml := Nat.le_of_eq hlen
      have HL := Lib.hid hlen
      clear hV hD hmidL hallL hk hhd hlen hlt htake
      go_enter Tryd.func36, Tryd.ntmps36
      go_wp2_with fail
      refine (wget_any l 7 _ _ c rfl hcap hm _ w hr).mono ?_
      rintro e w' ⟨rfl, rfl⟩
      rw [HV.out, errV_zero]
      go_wp2_with fail
      refine (decode_not mid HD.out (by omega) A1 _ _ (by rw [HL.out]) w (by rw [HL.out]; exact hmid)).mono ?_
      rintro e w' ⟨rfl, hb1⟩
      go_wp2
      go_ret3
      exact ⟨rfl, hb1⟩
    | some s =>
      have hT := readT_some (s := s) hV h4 h5 (by rw [hhd, if_pos h128, hmidL]; exact hD)
      rw [hallL] at hT
      rw [hT]
      have HV := Lib.hid hV
      have hk0 := hk w (Below.refl _ _) (c - U)
      have HD := Lib.hid hD
      have HM := Lib.hid hlen
      have hml := Nat.le_of_eq hlen
      have HL := Lib.hid hlt
      by_cases hs4 : 400 < s.length
      · rw [if_pos hs4, errV_pos (by decide)]
        have hT0 : txtE s = 4 := by rw [txtE, if_pos hs4]
        have HT0 := Lib.hid hT0
        have hsl := decode_len HD.out
        clear hV hmidL hallL hk hhd hlt hT hT0 hlen hD
        go_enter Tryd.func36, Tryd.ntmps36
        go_wp2_with fail
        refine (wget_any l 7 _ _ c rfl hcap hm _ w hr).mono ?_
        rintro e w' ⟨rfl, rfl⟩
        rw [HV.out, errV_zero]
        go_wp2_with fail
        refine (decode_is mid s HD.out (by omega) A1 _ _ (by rw [HM.out]) w (by rw [HM.out]; exact hmid)).mono ?_
        rintro e w1 ⟨rfl, hb1⟩
        go_wp2_with fail
        refine (htext_gave s w1 (by omega)).mono ?_
        rintro e w' ⟨A2, c2, rfl, hc2, hr2, hb2⟩
        rw [HT0.out, errV_pos (by decide)]
        go_wp2
        go_ret3
        exact ⟨rfl, hb1.trans (hb2.mono hb1.size)⟩
      rw [if_neg hs4]
      have hT0 : txtE s = 0 := by rw [txtE, if_neg hs4]
      have HT0 := Lib.hid hT0
      by_cases hx : txtL s = all
      · rw [if_pos hx]
        subst hx
        clear hV hmidL hallL hk hhd hlt hT hT0 hlen hD
        go_enter Tryd.func36, Tryd.ntmps36
        go_wp2_with fail
        refine (wget_any l 7 _ _ c rfl hcap hm _ w hr).mono ?_
        rintro e w' ⟨rfl, rfl⟩
        rw [HV.out, errV_zero]
        go_wp2_with fail
        refine (decode_is mid s HD.out (by omega) A1 _ _ (by rw [HM.out]) w (by rw [HM.out]; exact hmid)).mono ?_
        rintro e w1 ⟨rfl, hb1⟩
        go_wp2_with fail
        refine (htext_gave s w1 (by omega)).mono ?_
        rintro e w' ⟨A2, c2, rfl, hc2, hr2, hb2⟩
        rw [HT0.out, errV_zero]
        have k2 := fun m => run_str (w := w'.drewN m) (hr2.drewN m) c2
        have k3 := fun m => run_str (w := w'.drewN m) (A := some ⟨b, off, none⟩) (l := txtL s) (by rw [HL.out]; exact ((htake.below hb1).below (hb2.mono hb1.size)).drewN m) c
        rw [HL.out] at k2 k3 ⊢
        go_wp2_with fail
        go_quiet (fail)
        go_wp2
        go_ret3
        exact ⟨rfl, below_dN (hb1.trans (hb2.mono hb1.size)) _⟩
      · rw [if_neg hx]
        have hx2 : (txtL s == all) = false := by simpa using hx
        clear hV hmidL hallL hk hhd hlt hT hT0 hlen hD
        go_enter Tryd.func36, Tryd.ntmps36
        go_wp2_with fail
        refine (wget_any l 7 _ _ c rfl hcap hm _ w hr).mono ?_
        rintro e w' ⟨rfl, rfl⟩
        rw [HV.out, errV_zero]
        go_wp2_with fail
        refine (decode_is mid s HD.out (by omega) A1 _ _ (by rw [HM.out]) w (by rw [HM.out]; exact hmid)).mono ?_
        rintro e w1 ⟨rfl, hb1⟩
        go_wp2_with fail
        refine (htext_gave s w1 (by omega)).mono ?_
        rintro e w' ⟨A2, c2, rfl, hc2, hr2, hb2⟩
        rw [HT0.out, errV_zero]
        have k2 := fun m => run_str (w := w'.drewN m) (hr2.drewN m) c2
        have k3 := fun m => run_str (w := w'.drewN m) (A := some ⟨b, off, none⟩) (l := all) (by rw [HL.out]; exact ((htake.below hb1).below (hb2.mono hb1.size)).drewN m) c
        rw [HL.out] at k3
        go_wp2_with fail
        go_quiet (fail)
        go_wp2
        go_ret3
        exact ⟨rfl, below_dN (hb1.trans (hb2.mono hb1.size)) _⟩
  · have hT := readT_some (s := mid) hV h4 h5 (by rw [hhd, if_neg h128, hmidL])
    rw [hallL] at hT
    rw [hT, if_neg (by omega)]
    have HV := Lib.hid hV
    have hk0 := hk w (Below.refl _ _) (c - U)
    have hT0 : txtE mid = 0 := by rw [txtE, if_neg (by omega)]
    have HT0 := Lib.hid hT0
    have hml : mid.length ≤ 400 := by omega
    have HL := Lib.hid hlt
    by_cases hx : txtL mid = all
    · rw [if_pos hx]
      subst hx
      clear hV hmidL hallL hk hhd hlen hlt hT hT0
      go_enter Tryd.func36, Tryd.ntmps36
      go_wp2_with fail
      refine (wget_any l 7 _ _ c rfl hcap hm _ w hr).mono ?_
      rintro e w' ⟨rfl, rfl⟩
      rw [HV.out, errV_zero]
      go_wp2_with fail
      refine (htext_gave mid w (by omega)).mono ?_
      rintro e w' ⟨A2, c2, rfl, hc2, hr2, hb2⟩
      rw [HT0.out, errV_zero]
      have k2 := fun m => run_str (w := w'.drewN m) (hr2.drewN m) c2
      have k3 := fun m => run_str (w := w'.drewN m) (A := some ⟨b, off, none⟩) (l := txtL mid) (by rw [HL.out]; exact (htake.below hb2).drewN m) c
      rw [HL.out] at k2 k3 ⊢
      go_wp2_with fail
      go_quiet (fail)
      go_wp2
      go_ret3
      exact ⟨rfl, below_dN hb2 _⟩
    · rw [if_neg hx]
      have hx2 : (txtL mid == all) = false := by simpa using hx
      clear hV hmidL hallL hk hhd hlt hT hT0 hlen
      go_enter Tryd.func36, Tryd.ntmps36
      go_wp2_with fail
      refine (wget_any l 7 _ _ c rfl hcap hm _ w hr).mono ?_
      rintro e w' ⟨rfl, rfl⟩
      rw [HV.out, errV_zero]
      go_wp2_with fail
      refine (htext_gave mid w (by omega)).mono ?_
      rintro e w' ⟨A2, c2, rfl, hc2, hr2, hb2⟩
      rw [HT0.out, errV_zero]
      have k2 := fun m => run_str (w := w'.drewN m) (hr2.drewN m) c2
      have k3 := fun m => run_str (w := w'.drewN m) (A := some ⟨b, off, none⟩) (l := all) (by rw [HL.out]; exact (htake.below hb2).drewN m) c
      rw [HL.out] at k3
      go_wp2_with fail
      go_quiet (fail)
      go_wp2
      go_ret3
      exact ⟨rfl, below_dN hb2 _⟩
end Go.Proofs.YtkbbkamnmdeagaaDoor
namespace Go.Proofs.YtkbbkamnmdeagaaDoor
open Go.RowKit

def sv (l : List UInt8) : Value := .string ⟨l.toArray⟩
/-- A field as cells, as a value. -/
def fv (f : Fld) : List Value := [.string ⟨f.1.toArray⟩, .string ⟨f.2.toArray⟩]
def fA (f : Fld) : Value := .agg #[.string ⟨f.1.toArray⟩, .string ⟨f.2.toArray⟩]
def fvs (l : List Fld) : List Value := l.flatMap fv
theorem fvs_nil : fvs [] = [] := rfl
theorem fvs_cons (f : Fld) (l : List Fld) : fvs (f :: l) = fv f ++ fvs l := rfl
theorem fvs_append (a b : List Fld) : fvs (a ++ b) = fvs a ++ fvs b := by simp [fvs]
theorem fvs_length (l : List Fld) : (fvs l).length = l.length * 2 := by
  induction l with
  | nil => rfl
  | cons f l ih =>
    rw [fvs_cons, List.length_append, ih]
    simp [fv]
    omega
theorem fvs_take (l : List Fld) (k : Nat) : (fvs l).take (k * 2) = fvs (l.take k) := by
  induction l generalizing k with
  | nil => simp [fvs]
  | cons f l ih =>
    cases k with
    | zero => simp [fvs]
    | succ k =>
      rw [fvs_cons, List.take_succ_cons, fvs_cons, ← ih k]
      simp [fv, Nat.add_mul]
theorem fvs_one (l : List Fld) : ∀ u ∈ fvs l, u.oneCell' = true := by
  intro u hu
  obtain ⟨f, _, hf⟩ := List.mem_flatMap.1 hu
  simp only [fv, List.mem_cons, List.not_mem_nil, or_false] at hf
  rcases hf with rfl | rfl <;> rfl
theorem fvs_at (l : List Fld) : ∀ {k : Nat} (_ : k < l.length), (fvs l)[k * 2]? = some (.string ⟨l[k].1.toArray⟩) ∧ (fvs l)[k * 2 + 1]? = some (.string ⟨l[k].2.toArray⟩) := by
  induction l with
  | nil => intro k h; simp at h
  | cons f l ih =>
    intro k h
    cases k with
    | zero => exact ⟨rfl, rfl⟩
    | succ k =>
      have := ih (k := k) (by simpa using h)
      have e1 : (fvs (f :: l))[(k + 1) * 2]? = (fvs l)[k * 2]? := by
        rw [fvs_cons, show (k + 1) * 2 = k * 2 + 1 + 1 by omega]
        simp [fv]
      have e2 : (fvs (f :: l))[(k + 1) * 2 + 1]? = (fvs l)[k * 2 + 1]? := by
        rw [fvs_cons, show (k + 1) * 2 + 1 = k * 2 + 1 + 1 + 1 by omega]
        simp [fv]
      rw [e1, e2]
      simpa using this
/-- Fields that are read: the address written out, the cells of each. -/
theorem reads_fld {w : World} {B : Nat} {A : Option Addr} {l : List Fld} (h : Reads w B 2 A l.length (fvs l)) (h0 : 0 < l.length) :
    ∃ b off, A = some ⟨b, off, none⟩ ∧ b < B ∧ ∀ k (hk : k < l.length), w.cell? ⟨b, off + k * 2, none⟩ = some (.string ⟨l[k].1.toArray⟩) ∧ w.cell? ⟨b, off + k * 2 + 1, none⟩ = some (.string ⟨l[k].2.toArray⟩) := by
  obtain ⟨ad, e, hb, hc⟩ := h.2 h0
  obtain ⟨b, off, spot⟩ := ad
  have h1 := hc _ _ (fvs_at l h0).1
  have hspot : spot = none := by simpa [Addr.add] using World.cell?_spot h1
  subst hspot
  refine ⟨b, off, e, hb, fun k hk => ?_⟩
  have h2 := hc _ _ (fvs_at l hk).1
  have h3 := hc _ _ (fvs_at l hk).2
  rw [Addr.add_lit] at h2 h3
  rw [← Nat.add_assoc] at h3
  exact ⟨h2, h3⟩

/-- What a field's texts may be long. -/
def fOk (f : Fld) : Prop := f.1.length ≤ 140737488355328 ∧ f.2.length ≤ 140737488355328

set_option maxHeartbeats 1000000 in
theorem size_any (f : Fld) (hf : fOk f) (w : World) :
    Calls Tryd.prog 83 #[.agg #[.string ⟨f.1.toArray⟩, .string ⟨f.2.toArray⟩]] w fun e w' => e = .returned (.int .i64 (fsz f : Nat)) ∧ Below w.heap.size w w' := by
  obtain ⟨h1, h2⟩ := hf
  go_enter Tryd.func83, Tryd.ntmps83
  go_wp2
  go_ret
  refine ⟨?_, (Below.refl _ _).alloc (Nat.le_refl _) _⟩
  simp [fsz]

theorem fld_info : (Tryd.prog.info? 86).map (fun i => (i.zero, i.size, i.bytes)) = some (some (.agg #[.string ⟨#[]⟩, .string ⟨#[]⟩]), 2, 32) := by kernel_rfl

set_option maxRecDepth 100000 in
set_option maxHeartbeats 1000000 in
theorem always_any (w : World) :
    Calls Tryd.prog 88 #[] w fun e w' => e = .returned (.slice (some ⟨w.heap.size, 0, none⟩) 12 12) ∧ w.alloc (.cells (fvs alw).toArray 86) = w' := by
  go_enter Tryd.func88, Tryd.ntmps88
  go_wp2
  go_ret
  exact ⟨rfl, rfl⟩
end Go.Proofs.YtkbbkamnmdeagaaDoor
