/-
  The walk of the law CodeWrites: it returns true, and nothing that was in memory turns. Condition: the text and the bytes are no longer than 1048576 each; errors.errorType reads as laid.
-/
import Derived.Test.YtkbbkamnmdeagaaDoorRefDec
import Derived.Test.YtkbbkamnmdeagaaDoorDec
import Derived.Test.YtkbbkamnmdeagaaDoorMem2
namespace Go.Proofs.YtkbbkamnmdeagaaDoor
open Go.RowKit

theorem encode_gave2 (l : List UInt8) (hl : l.length ≤ 68719476736) (w : World) :
    Calls Tryd.prog 22 #[.string ⟨l.toArray⟩] w fun e w' => ∃ A c, e = .returned (.slice A (enc l).length c) ∧ Gave w w' (enc l) A c := by
  refine (encode_any l hl w).mono ?_
  rintro e w' ⟨v, he, hown, hb⟩
  obtain ⟨A, c, rfl, hg⟩ := gave_of_own hown hb
  exact ⟨A, c, he, hg⟩
theorem rcode_gave (l : List UInt8) (hl : l.length ≤ 68719476736) (w : World) :
    Calls Tryd.prog 23 #[.string ⟨l.toArray⟩] w fun e w' => ∃ A c, e = .returned (.slice A (enc l).length c) ∧ Gave w w' (enc l) A c := by
  refine (rcode_any l hl w).mono ?_
  rintro e w' ⟨v, he, hown, hb⟩
  obtain ⟨A, c, rfl, hg⟩ := gave_of_own hown hb
  exact ⟨A, c, he, hg⟩
theorem decode_two (l t : List UInt8) (ok : Bool) (a : Nat) (h1 : (decode l).getD [] = t) (h2 : (decode l).isSome = ok) (ha : a = if ok then 0 else 2) (hl : l.length ≤ 1099511627776) (A : Option Addr) (n c : Nat) (hn : n = l.length) (w : World) (hr : Reads w w.heap.size 1 A l.length (bs l)) :
    Calls Tryd.prog 26 #[.slice A n c] w fun e w' => e = .returned (.tuple #[.string ⟨t.toArray⟩, errV a]) ∧ Below w.heap.size w w' := by
  refine (decode_any l hl A n c hn w hr).mono ?_
  rintro e w' ⟨he, hb⟩
  have e1 : decS l = t := by simp [decS, h1]
  have e2 : decE l = a := by simp [decE, h2, ha]
  rw [e1, e2] at he
  exact ⟨he, hb⟩
theorem rdecode_two (l t : List UInt8) (ok : Bool) (h1 : (decode l).getD [] = t) (h2 : (decode l).isSome = ok) (hl : l.length ≤ 68719476736) (A : Option Addr) (n c : Nat) (hn : n = l.length) (w : World) (hr : Reads w w.heap.size 1 A l.length (bs l)) :
    Calls Tryd.prog 25 #[.slice A n c] w fun e w' => e = .returned (.tuple #[.string ⟨t.toArray⟩, .bool ok]) ∧ Below w.heap.size w w' := by
  refine (rdecode_any l hl A n c hn w hr).mono ?_
  rintro e w' ⟨he, hb⟩
  rw [← h1, ← h2]
  exact ⟨he, hb⟩

set_option maxRecDepth 100000 in
set_option maxHeartbeats 4000000 in
theorem codeWrites_walk (s l : List UInt8) (A : Option Addr) (c : Nat) (w : World) (hE : ErrType w) (hs : s.length ≤ 1048576) (hl : l.length ≤ 1048576) (hr : Reads w w.heap.size 1 A l.length (bs l)) :
    Calls Tryd.prog 6 #[.string ⟨s.toArray⟩, .slice A l.length c] w fun e w' => e = .returned (.bool true) ∧ Below w.heap.size w w' := by
  obtain ⟨t, ok, h1, h2⟩ : ∃ t ok, (decode l).getD [] = t ∧ (decode l).isSome = ok := ⟨_, _, rfl, rfl⟩
  have H1 := Lib.hid h1
  have H2 := Lib.hid h2
  clear h1 h2
  cases ok with
  | true =>
    go_enter Tryd.func6, Tryd.ntmps6
    go_wp2_with fail
    refine (encode_gave2 s (by omega) w).mono ?_
    rintro e w1 ⟨A1, c1, rfl, hc1, hr1, hb1⟩
    go_wp2_with fail
    refine (rcode_gave s (by omega) w1).mono ?_
    rintro e w2 ⟨A2, c2, rfl, hc2, hr2, hb2⟩
    go_wp2_with fail
    refine (cbits_any s (by omega) w2).mono ?_
    rintro e w3 ⟨rfl, hb3⟩
    have hb12 := hb1.trans (hb2.mono hb1.size)
    have hb13 := hb12.trans (hb3.mono hb12.size)
    go_wp2_with fail
    refine (rdecode_two l t true H1.out H2.out (by omega) A _ c rfl w3 ((hr.below hb13).more hb13.size)).mono ?_
    rintro e w4 ⟨rfl, hb4⟩
    have hb14 := hb13.trans (hb4.mono hb13.size)
    go_wp2_with fail
    refine (decode_two l t true 0 H1.out H2.out rfl (by omega) A _ c rfl w4 ((hr.below hb14).more hb14.size)).mono ?_
    rintro e w5 ⟨rfl, hb5⟩
    have hb15 := hb14.trans (hb5.mono hb14.size)
    go_wp2_with fail
    refine (same_true 0 w5 (hE.next hb15)).mono ?_
    rintro e w6 ⟨rfl, hb6⟩
    have hb16 := hb15.trans (hb6.mono hb15.size)
    have hs2 := hb2.size
    have hs3 := hb3.size
    have hs4 := hb4.size
    have hs5 := hb5.size
    have hb26 := (((hb3.trans (hb4.mono hs3)).trans (hb5.mono (Nat.le_trans hs3 hs4))).trans (hb6.mono (Nat.le_trans hs3 (Nat.le_trans hs4 hs5))))
    have hb36 := hb2.trans (hb26.mono hs2)
    have k1 := run_str (hr1.below hb36) c1
    have k2 := run_str (hr2.below hb26) c2
    clear hr1 hr2 hb1 hb2 hb3 hb4 hb5 hb6 hb12 hb13 hb14 hb15 hb26 hb36 hs2 hs3 hs4 hs5
    have hb16s := hb16.size
    have HB := Lib.hid hb16
    go_wp2_with fail
    refine (rBits_any s (by omega) w6).mono ?_
    rintro e w7 ⟨rfl, hb7⟩
    go_wp2
    go_ret
    exact ⟨rfl, HB.out.trans (hb7.mono hb16s)⟩
  | false =>
    go_enter Tryd.func6, Tryd.ntmps6
    go_wp2_with fail
    refine (encode_gave2 s (by omega) w).mono ?_
    rintro e w1 ⟨A1, c1, rfl, hc1, hr1, hb1⟩
    go_wp2_with fail
    refine (rcode_gave s (by omega) w1).mono ?_
    rintro e w2 ⟨A2, c2, rfl, hc2, hr2, hb2⟩
    go_wp2_with fail
    refine (cbits_any s (by omega) w2).mono ?_
    rintro e w3 ⟨rfl, hb3⟩
    have hb12 := hb1.trans (hb2.mono hb1.size)
    have hb13 := hb12.trans (hb3.mono hb12.size)
    go_wp2_with fail
    refine (rdecode_two l t false H1.out H2.out (by omega) A _ c rfl w3 ((hr.below hb13).more hb13.size)).mono ?_
    rintro e w4 ⟨rfl, hb4⟩
    have hb14 := hb13.trans (hb4.mono hb13.size)
    go_wp2_with fail
    refine (decode_two l t false 2 H1.out H2.out rfl (by omega) A _ c rfl w4 ((hr.below hb14).more hb14.size)).mono ?_
    rintro e w5 ⟨rfl, hb5⟩
    have hb15 := hb14.trans (hb5.mono hb14.size)
    go_wp2_with fail
    refine (same_true 2 w5 (hE.next hb15)).mono ?_
    rintro e w6 ⟨rfl, hb6⟩
    have hb16 := hb15.trans (hb6.mono hb15.size)
    have hs2 := hb2.size
    have hs3 := hb3.size
    have hs4 := hb4.size
    have hs5 := hb5.size
    have hb26 := (((hb3.trans (hb4.mono hs3)).trans (hb5.mono (Nat.le_trans hs3 hs4))).trans (hb6.mono (Nat.le_trans hs3 (Nat.le_trans hs4 hs5))))
    have hb36 := hb2.trans (hb26.mono hs2)
    have k1 := run_str (hr1.below hb36) c1
    have k2 := run_str (hr2.below hb26) c2
    clear hr1 hr2 hb1 hb2 hb3 hb4 hb5 hb6 hb12 hb13 hb14 hb15 hb26 hb36 hs2 hs3 hs4 hs5
    have hb16s := hb16.size
    have HB := Lib.hid hb16
    go_wp2_with fail
    refine (rBits_any s (by omega) w6).mono ?_
    rintro e w7 ⟨rfl, hb7⟩
    go_wp2
    go_ret
    exact ⟨rfl, HB.out.trans (hb7.mono hb16s)⟩
end Go.Proofs.YtkbbkamnmdeagaaDoor
