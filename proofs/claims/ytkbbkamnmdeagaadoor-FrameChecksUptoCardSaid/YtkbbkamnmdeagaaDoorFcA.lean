/-
  frame.sizes, frame.Word: their contracts. Condition: none but the four bytes.
-/
import Derived.Test.YtkbbkamnmdeagaaDoorFcLaw
import Derived.Test.YtkbbkamnmdeagaaDoorChk
import Derived.Deep.CutRange
import Derived.Deep.QuietTactic
import Derived.BigQuiet
namespace Go.Proofs.YtkbbkamnmdeagaaDoor
open Go.RowKit

/-- Whether there are as many bytes as there should be. -/
def sizeOk (K F : Int) (n : Nat) : Bool := if K = 3 ∨ K = 7 then decide (n = 4) else if K = 4 then (decide (n % 6 = 0) && (decide (n = 0) || !oddF F)) else if K = 5 then decide (n = 8) else if K = 6 then decide (8 ≤ n) else true
theorem rem6 (n : Nat) (h : n ≤ 140737488355328) : Int.tmod ((n : Nat) : Int) 6 = ((n % 6 : Nat) : Int) := by
  rw [Int.tmod_eq_emod_of_nonneg (by omega)]
  omega

theorem or_joinN (a b p t : Nat) (hp : 2 ^ t = p) (hb : b < p) (hs : a * p + b < 4611686018427387904) : bits .or .i64 ((a * p : Nat) : Int) ((b : Nat) : Int) = ((a * p + b : Nat) : Int) := by
  subst hp
  exact or_join a b t hb hs
set_option maxRecDepth 100000 in
theorem word_join (x y z v : Nat) (hx : x < 256) (hy : y < 256) (hz : z < 256) (hv : v < 256) : bits .or .i64 (bits .or .i64 (bits .or .i64 ((x : Int) * 16777216) ((y : Int) * 65536)) ((z : Int) * 256)) (v : Int) = ((((x * 256 + y) * 256 + z) * 256 + v : Nat) : Int) := by
  have e1 : ((x : Int) * 16777216) = ((x * 16777216 : Nat) : Int) := by omega
  have e2 : ((y : Int) * 65536) = ((y * 65536 : Nat) : Int) := by omega
  rw [e1, e2, or_joinN x (y * 65536) 16777216 24 rfl (by omega) (by omega)]
  have e3 : ((x * 16777216 + y * 65536 : Nat) : Int) = (((x * 256 + y) * 65536 : Nat) : Int) := by omega
  have e4 : ((z : Int) * 256) = ((z * 256 : Nat) : Int) := by omega
  rw [e3, e4, or_joinN (x * 256 + y) (z * 256) 65536 16 rfl (by omega) (by omega)]
  have e5 : (((x * 256 + y) * 65536 + z * 256 : Nat) : Int) = ((((x * 256 + y) * 256 + z) * 256 : Nat) : Int) := by
    have e6 : ∀ p : Nat, p * 65536 + z * 256 = (p * 256 + z) * 256 := fun p => by omega
    rw [e6]
  rw [e5, or_joinN _ v 256 8 rfl (by omega) (by omega)]
theorem pair_join (x y : Nat) (hx : x < 256) (hy : y < 256) : bits .or .i64 ((x : Int) * 256) (y : Int) = ((x * 256 + y : Nat) : Int) := by
  have e1 : ((x : Int) * 256) = ((x * 256 : Nat) : Int) := by omega
  rw [e1, or_joinN x y 256 8 rfl (by omega) (by omega)]
theorem eqb (n k : Nat) : (((n : Nat) : Int) == ((k : Nat) : Int)) = decide (n = k) := by
  by_cases h : n = k
  · subst h
    simp
  · have : ¬ ((n : Nat) : Int) = ((k : Nat) : Int) := by omega
    rw [decide_eq_false h]
    exact beq_eq_false_iff_ne.2 this

set_option maxRecDepth 100000 in
set_option maxHeartbeats 4000000 in
theorem sizes_any (f : Frm) (A : Option Addr) (c : Nat) (hm : f.body.length ≤ 140737488355328) (w : World) :
    Calls Tryd.prog 79 #[frV f A c] w fun e w' => e = .returned (.bool (sizeOk f.K f.F f.body.length)) ∧ Below w.heap.size w w' := by
  obtain ⟨K, F, S, body⟩ := f
  simp only at hm ⊢
  obtain ⟨n, hn0⟩ : ∃ n, body.length = n := ⟨_, rfl⟩
  rw [hn0] at hm ⊢
  by_cases k3 : K = 3
  · subst k3
    have HV := Lib.hid (show (((n : Nat) : Int) == 4) = sizeOk 3 F n from (eqb n 4).trans (by simp [sizeOk]))
    unfold frV
    rw [hn0]
    go_enter Tryd.func79, Tryd.ntmps79
    go_wp2
    go_ret
    exact ⟨congrArg (fun b => Ending.returned (Value.bool b)) HV.out, (Below.refl _ _).alloc (Nat.le_refl _) _⟩
  by_cases k7 : K = 7
  · subst k7
    have HV := Lib.hid (show (((n : Nat) : Int) == 4) = sizeOk 7 F n from (eqb n 4).trans (by simp [sizeOk]))
    unfold frV
    rw [hn0]
    go_enter Tryd.func79, Tryd.ntmps79
    go_wp2
    go_ret
    exact ⟨congrArg (fun b => Ending.returned (Value.bool b)) HV.out, (Below.refl _ _).alloc (Nat.le_refl _) _⟩
  by_cases k5 : K = 5
  · subst k5
    have HV := Lib.hid (show (((n : Nat) : Int) == 8) = sizeOk 5 F n from (eqb n 8).trans (by simp [sizeOk]))
    unfold frV
    rw [hn0]
    go_enter Tryd.func79, Tryd.ntmps79
    go_wp2
    go_ret
    exact ⟨congrArg (fun b => Ending.returned (Value.bool b)) HV.out, (Below.refl _ _).alloc (Nat.le_refl _) _⟩
  by_cases k6 : K = 6
  · subst k6
    have HV := Lib.hid (show decide ((8 : Int) ≤ ((n : Nat) : Int)) = sizeOk 6 F n by simp [sizeOk]; omega)
    unfold frV
    rw [hn0]
    go_enter Tryd.func79, Tryd.ntmps79
    go_wp2
    go_ret
    exact ⟨congrArg (fun b => Ending.returned (Value.bool b)) HV.out, (Below.refl _ _).alloc (Nat.le_refl _) _⟩
  by_cases k4 : K = 4
  · subst k4
    have hrem := rem6 n hm
    have hand := and_one F
    obtain ⟨r, hr⟩ : ∃ r, n % 6 = r := ⟨_, rfl⟩
    rw [hr] at hrem
    by_cases h6 : r = 0
    · have i1 : (((r : Nat) : Int) == 0) = true := by simp [h6]
      have i1' : (r == 0) = true := by simp [h6]
      by_cases hn : n = 0
      · have i3 : (((n : Nat) : Int) == 0) = true := by simp [hn]
        have i3' : (n == 0) = true := by simp [hn]
        have HV := Lib.hid (show true = sizeOk 4 F n by simp [sizeOk, hn])
        have H6 := Lib.hid (And.intro hn (And.intro h6 hr))
        clear hn h6 hr
        unfold frV
        rw [hn0]
        go_enter Tryd.func79, Tryd.ntmps79
        go_wp2
        go_ret
        exact ⟨congrArg (fun b => Ending.returned (Value.bool b)) HV.out, (Below.refl _ _).alloc (Nat.le_refl _) _⟩
      · have i3 : (((n : Nat) : Int) == 0) = false := by simp; exact hn
        have i3' : (n == 0) = false := by simpa using hn
        cases hO : oddF F with
        | true =>
          rw [hO, if_pos rfl] at hand
          have HV := Lib.hid (show false = sizeOk 4 F n by simp [sizeOk, hn, hO])
          have H6 := Lib.hid (And.intro hn (And.intro h6 hr))
          clear hn h6 hO hr
          unfold frV
          rw [hn0]
          go_enter Tryd.func79, Tryd.ntmps79
          go_wp2
          go_ret
          exact ⟨congrArg (fun b => Ending.returned (Value.bool b)) HV.out, (Below.refl _ _).alloc (Nat.le_refl _) _⟩
        | false =>
          rw [hO, if_neg (by simp)] at hand
          have HV := Lib.hid (show true = sizeOk 4 F n by simp [sizeOk, hO, hr, h6])
          have H6 := Lib.hid (And.intro hn (And.intro h6 hr))
          clear hn h6 hO hr
          unfold frV
          rw [hn0]
          go_enter Tryd.func79, Tryd.ntmps79
          go_wp2
          go_ret
          exact ⟨congrArg (fun b => Ending.returned (Value.bool b)) HV.out, (Below.refl _ _).alloc (Nat.le_refl _) _⟩
    · have i1 : (((r : Nat) : Int) == 0) = false := by simp; exact h6
      have i1' : (r == 0) = false := by simpa using h6
      have HV := Lib.hid (show false = sizeOk 4 F n by simp [sizeOk, hr, h6])
      have H6 := Lib.hid (And.intro h6 hr)
      clear h6 hr
      unfold frV
      rw [hn0]
      go_enter Tryd.func79, Tryd.ntmps79
      go_wp2
      go_ret
      exact ⟨congrArg (fun b => Ending.returned (Value.bool b)) HV.out, (Below.refl _ _).alloc (Nat.le_refl _) _⟩
  have b3 : (K == 3) = false := by simpa using k3
  have b4 : (K == 4) = false := by simpa using k4
  have b5 : (K == 5) = false := by simpa using k5
  have b6 : (K == 6) = false := by simpa using k6
  have b7 : (K == 7) = false := by simpa using k7
  have HV := Lib.hid (show true = sizeOk K F n by simp [sizeOk, k3, k4, k5, k6, k7])
  unfold frV
  rw [hn0]
  go_enter Tryd.func79, Tryd.ntmps79
  go_wp2
  go_ret
  exact ⟨congrArg (fun b => Ending.returned (Value.bool b)) HV.out, (Below.refl _ _).alloc (Nat.le_refl _) _⟩

set_option maxRecDepth 100000 in
set_option maxHeartbeats 4000000 in
theorem fword_any (a b c d : UInt8) (A : Option Addr) (n cp : Nat) (hn : n = 4) (w : World) (B : Nat) (hr : Reads w B 1 A 4 (bs [a, b, c, d])) :
    Calls Tryd.prog 80 #[.slice A n cp] w fun e w' => e = .returned (.int .i64 ((beNat [a, b, c, d] : Nat) : Int)) ∧ Below w.heap.size w w' := by
  subst hn
  obtain ⟨bb, off, rfl, hb, hc⟩ := hr.form (by omega)
  have e0 : w.cell? ⟨bb, off, none⟩ = some (.int .u8 ((a.toNat : Nat) : Int)) := hc 0 _ rfl
  have e1 : w.cell? ⟨bb, off + 1, none⟩ = some (.int .u8 ((b.toNat : Nat) : Int)) := hc 1 _ rfl
  have e2 : w.cell? ⟨bb, off + 2, none⟩ = some (.int .u8 ((c.toNat : Nat) : Int)) := hc 2 _ rfl
  have e3 : w.cell? ⟨bb, off + 3, none⟩ = some (.int .u8 ((d.toNat : Nat) : Int)) := hc 3 _ rfl
  have ha := a.toNat_lt
  have hb2 := b.toNat_lt
  have hc2 := c.toNat_lt
  have hd2 := d.toNat_lt
  have hbe : beNat [a, b, c, d] = ((a.toNat * 256 + b.toNat) * 256 + c.toNat) * 256 + d.toNat := by simp [beNat]; try omega
  rw [hbe]
  generalize a.toNat = x at *
  generalize b.toNat = y at *
  generalize c.toNat = z at *
  generalize d.toNat = v at *
  clear hc hr hbe
  go_enter Tryd.func80, Tryd.ntmps80
  go_upto_region 1 with fail
  go_quiet (fail)
  go_wp2
  go_ret
  exact ⟨by rw [← word_join x y z v (by omega) (by omega) (by omega) (by omega)]; rfl, below_dN (Below.refl _ _) _⟩
end Go.Proofs.YtkbbkamnmdeagaaDoor
