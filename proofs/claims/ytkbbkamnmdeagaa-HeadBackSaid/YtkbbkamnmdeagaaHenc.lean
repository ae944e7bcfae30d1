/-
  Encode of a coder: what it refuses. Condition: the fields' texts' lengths.
-/
import Derived.Test.YtkbbkamnmdeagaaCoder3
import Derived.Deep.RegionHeld3
import Derived.Deep.CutRange
import Derived.Deep.LoopGhost
import Derived.Deep.CutBlock
namespace Go.Proofs.Ytkbbkamnmdeagaa
open Go.RowKit
attribute [local go_sem ↓] Go.wp_at_zero Go.wp_at_succ

theorem wt_nextF4 (mx : Nat) (xs : List Fld) (f : Fld) (hm : mx ≤ 4096) (h : wt xs ≤ 4096) : wt (nextF mx xs f) ≤ 4096 := by
  unfold nextF
  split
  · exact h
  · exact Nat.le_trans (wt_tAdd mx xs f) hm
theorem saidL_len (mx : Nat) (hm : mx ≤ 4096) : ∀ (l xs : List Fld), wt xs ≤ 4096 → (saidL mx xs l).length ≤ 5000 * l.length
  | [], xs, h => by simp [saidL]
  | f :: l, xs, h => by
    have h1 := saidL_len mx hm l (nextF mx xs f) (wt_nextF4 mx xs f hm h)
    have h2 := saidF_len mx xs f (by have := wt_len xs; omega)
    simp only [saidL, List.length_append, List.length_cons]
    omega
theorem saidP_len (ps : List Nat) (h : ∀ p ∈ ps, p ≤ 4096) : (saidP ps).length ≤ 2000 := by
  cases ps with
  | nil => simp [saidP]
  | cons p r =>
    have h0 := h p (by simp)
    have h1 := (leastP_le r p).1
    have h2 := h _ (List.getLast_mem (l := p :: r) (by simp))
    have h3 := putL_len (leastP p r) 5 32 (by omega)
    have h4 := putL_len ((p :: r).getLast (by simp)) 5 32 (by omega)
    simp only [saidP, List.length_append]
    split
    · omega
    · simp only [List.length_nil]
      omega
theorem tooLong_snoc (l : List Fld) (f : Fld) : tooLong (l ++ [f]) = (tooLong l || (decide (400 < f.1.length) || decide (400 < f.2.length))) := by simp [tooLong]
theorem tooLong_take (l : List Fld) (k : Nat) (h : k < l.length) : tooLong (l.take (k + 1)) = (tooLong (l.take k) || (decide (400 < l[k].1.length) || decide (400 < l[k].2.length))) := by rw [List.take_succ_eq_append_getElem h, tooLong_snoc]
theorem tooLong_each {l : List Fld} (h : tooLong l = false) : ∀ f ∈ l, f.1.length ≤ 400 ∧ f.2.length ≤ 400 := by
  intro f hf
  have := List.any_eq_false.1 h f hf
  simp at this
  omega
theorem len_gt {n : Nat} (h : 400 < n) : (400 : Int) < ((n : Nat) : Int) ∧ decide ((400 : Int) < ((n : Nat) : Int)) = true := by
  have : (400 : Int) < ((n : Nat) : Int) := by omega
  exact ⟨this, decide_eq_true this⟩
theorem len_le {n : Nat} (h : n ≤ 400) : ¬ (400 : Int) < ((n : Nat) : Int) ∧ decide ((400 : Int) < ((n : Nat) : Int)) = false := by
  have : ¬ (400 : Int) < ((n : Nat) : Int) := by omega
  exact ⟨this, decide_eq_false this⟩

set_option maxRecDepth 100000 in
set_option maxHeartbeats 4000000 in
theorem cenc_much (C : Nat) (l : List Fld) (hf : ∀ f ∈ l, fOk f) (hm : l.length ≤ 140737488355328) (hE : tooMuch l = true) (LA : Option Addr) (n lc : Nat) (hn : n = l.length) (w : World) (hr : Reads w w.heap.size 2 LA l.length (fvs l)) :
    Calls Try.prog 19 #[.pointer (some ⟨C, 0, none⟩), .slice LA n lc] w fun e w' => e = .returned (.tuple #[.slice none 0 0, .iface 23 (.int .i64 4)]) ∧ Below w.heap.size w w' := by
  subst hn
  have HE := Lib.hid hE
  clear hE
  go_enter Try.func19, Try.ntmps19
  go_wp2_with fail
  refine (full_any l hf hm LA _ lc rfl w hr).mono ?_
  rintro e w1 ⟨rfl, hb1⟩
  rw [HE.out]
  go_wp2
  go_ret2
  exact ⟨rfl, hb1⟩
set_option maxRecDepth 100000 in
set_option maxHeartbeats 4000000 in
theorem cenc_long (C : Nat) (l : List Fld) (hf : ∀ f ∈ l, fOk f) (hm : l.length ≤ 140737488355328) (hE0 : tooMuch l = false) (hE : tooLong l = true) (LA : Option Addr) (n lc : Nat) (hn : n = l.length) (w : World) (hr : Reads w w.heap.size 2 LA l.length (fvs l)) :
    Calls Try.prog 19 #[.pointer (some ⟨C, 0, none⟩), .slice LA n lc] w fun e w' => e = .returned (.tuple #[.slice none 0 0, .iface 23 (.int .i64 4)]) ∧ Below w.heap.size w w' := by
  subst hn
  have HE := Lib.hid hE
  have HE0 := Lib.hid hE0
  have HR := Lib.hid hr
  clear hE hE0
  go_enter Try.func19, Try.ntmps19
  go_wp2_with fail
  refine (full_any l hf hm LA _ lc rfl w hr).mono ?_
  rintro e w1 ⟨rfl, hb1⟩
  rw [HE0.out]
  have HB1 := Lib.hid hb1
  clear hb1 hr
  go_wp2
  go_loopw [23] (fun i wr => ∃ k : Nat, k ≤ l.length ∧ i = .int .i64 (k : Int) ∧ Hid (tooLong (l.take k) = false) ∧ Hid (Below w.heap.size w wr)) (fun i _ => l.length - (intOf i).toNat)
  case atStart => exact ⟨0, Nat.zero_le _, rfl, by simp [tooLong, Hid], HB1.out⟩
  case round =>
    obtain ⟨k, hk, rfl, HT, HBr⟩ := hrel
    by_cases hlt : k < l.length
    · obtain ⟨b, off, rfl, hbB, hcl⟩ := reads_fld (HR.out.below HBr.out) (by omega)
      obtain ⟨e0, e1⟩ := hcl k hlt
      have hbr := Nat.lt_of_lt_of_le hbB HBr.out.size
      have hts := tooLong_take l k hlt
      rw [HT.out, Bool.false_or] at hts
      have HTS := Lib.hid hts
      have HB2 := Lib.hid (HBr.out.alloc HBr.out.size (.cells #[.string ⟨l[k].1.toArray⟩, .string ⟨l[k].2.toArray⟩] 40))
      clear hcl hts
      generalize l[k] = f at *
      by_cases h1 : 400 < f.1.length
      · obtain ⟨i1, i2⟩ := len_gt h1
        go_wp2
        go_ret2
        exact ⟨rfl, HB2.out⟩
      · obtain ⟨i1, i2⟩ := len_le (Nat.le_of_not_lt h1)
        by_cases h2 : 400 < f.2.length
        · obtain ⟨i3, i4⟩ := len_gt h2
          go_wp2
          go_ret2
          exact ⟨rfl, HB2.out⟩
        · obtain ⟨i3, i4⟩ := len_le (Nat.le_of_not_lt h2)
          have hnx : tooLong (l.take (k + 1)) = false := by rw [HTS.out]; simp [h1, h2]
          have HNX := Lib.hid hnx
          clear hnx h1 h2
          go_wp2
          go_roundw
          case rel => exact ⟨k + 1, by omega, by go_num, HNX.out, HB2.out⟩
          case measure => simp [intOf]; omega
    · have hke : l.take k = l := List.take_of_length_le (by omega)
      have := HT.out
      rw [hke, HE.out] at this
      cases this
theorem cenc_fault (C : Nat) (l : List Fld) (hf : ∀ f ∈ l, fOk f) (hm : l.length ≤ 140737488355328) (hE : saidE l ≠ 0) (LA : Option Addr) (n lc : Nat) (hn : n = l.length) (w : World) (hr : Reads w w.heap.size 2 LA l.length (fvs l)) :
    Calls Try.prog 19 #[.pointer (some ⟨C, 0, none⟩), .slice LA n lc] w fun e w' => e = .returned (.tuple #[.slice none 0 0, .iface 23 (.int .i64 4)]) ∧ Below w.heap.size w w' := by
  cases h1 : tooMuch l with
  | true => exact cenc_much C l hf hm h1 LA n lc hn w hr
  | false =>
    cases h2 : tooLong l with
    | true => exact cenc_long C l hf hm h1 h2 LA n lc hn w hr
    | false => simp [saidE, h1, h2] at hE
end Go.Proofs.Ytkbbkamnmdeagaa
