/-
  The reference's Get where the first byte is full. Condition: the length's bound.
-/
import Derived.Test.YtkbbkamnmdeagaaDoorGet2
namespace Go.Proofs.YtkbbkamnmdeagaaDoor
open Go.RowKit

set_option maxRecDepth 100000 in
set_option maxHeartbeats 4000000 in
theorem rget_more (r : List UInt8) (c0 : UInt8) (t : Nat) (ht : 1 ≤ t) (ht8 : t ≤ 8) (A : Option Addr) (n c : Nat) (hn : n = r.length + 1) (hm : r.length ≤ 140737488355328) (B : Nat) (w : World) (hr : Reads w B 1 A (r.length + 1) (bs (c0 :: r)))
    (hlt : ¬ c0.toNat % 2 ^ t < 2 ^ t - 1) (N U E : Nat) (hR : getFrom 0 (c0.toNat % 2 ^ t) r = (N, U, E)) :
    Calls Tryd.prog 20 #[.slice A n c, .int .i64 t] w fun e w' => e = .returned (.tuple #[.int .i64 (N : Int), .int .i64 (U : Int), .int .i64 (E : Int)]) ∧ w = w' := by
  subst hn
  obtain ⟨b, off, rfl, hbB, hall⟩ := hr.form (by omega)
  have h0 : w.cell? ⟨b, off, none⟩ = some (.int .u8 (c0.toNat : Int)) := hall 0 _ rfl
  have HC : Hid (∀ k (hk : k < r.length), w.cell? ⟨b, off + (k + 1), none⟩ = some (.int .u8 (r[k].toNat : Int))) := by
    intro k hk
    exact hall (k + 1) (.int .u8 (r[k].toNat : Int)) (by simp [bs, hk])
  have hb : c0.toNat < 256 := c0.toNat_lt
  have hp := pow2_bounds ht ht8
  have HPC : ∀ W : World, Calls Tryd.prog 68 #[.int .i64 (t : Int)] W fun e w' => e = .returned (.int .i64 ((2 ^ t : Nat) : Int)) ∧ W = w' := by
    intro W
    have h := rpow_any (t : Int) (by omega) (by omega) W
    rw [Int.toNat_natCast] at h
    simpa using h
  have HH := Lib.hid HPC
  have HX := Lib.hid (Int.natCast_emod c0.toNat (2 ^ t))
  have hx8 := Nat.mod_lt c0.toNat (show 0 < 2 ^ t by omega)
  have HR := Lib.hid hR
  have H0 := Lib.hid h0
  clear hall hr hR hbB h0 HPC
  generalize c0.toNat % 2 ^ t = x0 at *
  generalize c0.toNat = y0 at *
  generalize 2 ^ t = p at *
  have hd : decide ((y0 : Int) % (p : Int) < (p : Int) - 1) = false := by
    rw [← HX.out]
    simp
    omega
  have ht1 : decide ((t : Int) < 1) = false := by simp; omega
  have ht9 : decide ((8 : Int) < (t : Int)) = false := by simp; omega
  have hx0 : x0 ≤ 255 := by omega
  clear hlt
  have h0 := H0.out
  clear H0
  go_enter Tryd.func20, Tryd.ntmps20
  go_wp2_with (go_at_call 68; refine (HH.out _).mono ?_; rintro e w' ⟨rfl, rfl⟩)
  clear h0
  go_loop [8, 9, 10, 11] (fun n by_ i _ => ∃ k x : Nat, k ≤ 4 ∧ k ≤ r.length ∧ i = .int .i64 ((k + 1 : Nat) : Int) ∧ by_ = .int .i64 ((128 ^ k : Nat) : Int) ∧ n = .int .i64 x ∧ x ≤ 2147483647 ∧ Hid (getFrom k x (r.drop k) = (N, U, E))) (fun _ _ i _ => r.length + 1 - (intOf i).toNat)
  case atStart => exact ⟨0, x0, by omega, by omega, rfl, rfl, by rw [HX.out], by omega, HR⟩
  case round =>
    obtain ⟨k, x, hk4, hk, rfl, rfl, rfl, hx, HX⟩ := hrel
    clear HR
    by_cases hlt : k < r.length
    · have hcl := HC.out k hlt
      have hyb : r[k].toNat < 256 := r[k].toNat_lt
      have hdrop := List.drop_eq_getElem_cons hlt
      have hOO := HX.out
      rw [hdrop] at hOO
      have HO := Lib.hid hOO
      clear hOO hdrop HC HX
      have O1 := Lib.hid (@getFrom_over k x r[k] (r.drop (k + 1)))
      have O2 := Lib.hid (@getFrom_zero k x r[k] (r.drop (k + 1)))
      have O3 := Lib.hid (@getFrom_done k x r[k] (r.drop (k + 1)))
      have O4 := Lib.hid (@getFrom_next k x r[k] (r.drop (k + 1)))
      generalize getFrom k x (r[k] :: r.drop (k + 1)) = G at *
      generalize r[k].toNat = v at *
      rcases (by omega : k = 0 ∨ k = 1 ∨ k = 2 ∨ k = 3 ∨ k = 4) with rfl | rfl | rfl | rfl | rfl
      · simp only [Nat.reducePow, Nat.mul_one, Nat.reduceAdd, Nat.pow_zero] at *
        by_cases c1 : 2147483647 < x + v % 128
        · have e := (O1.out (.inl c1)).symm.trans HO.out
          simp only [Prod.mk.injEq] at e
          obtain ⟨rfl, rfl, rfl⟩ := e
          have c1' : (2147483647 : Int) < (x : Int) + (v : Int) % 128 := by omega
          clear O1 O2 O3 O4 HO
          go_wp2
          go_ret3
          exact ⟨rfl, rfl⟩
        have c1' : ¬ (2147483647 : Int) < (x : Int) + (v : Int) % 128 := by omega
        have hno : ¬ (2147483647 < x + v % 128 ∨ ((0 : Nat) = 4 ∧ 128 ≤ v)) := by omega
        by_cases c5 : v < 128
        · have e := (O3.out hno (by omega) c5).symm.trans HO.out
          simp only [Prod.mk.injEq] at e
          obtain ⟨rfl, rfl, rfl⟩ := e
          clear O1 O2 O3 O4 HO hno
          go_wp2
          go_ret3
          refine ⟨?_, rfl⟩
          simp
        have e := (O4.out hno (by omega) c5).symm.trans HO.out
        have HE := Lib.hid e
        clear O1 O2 O3 O4 HO hno e
        go_wp2
        go_round
        case rel => exact ⟨1, x + v % 128, by omega, by omega, by go_num, by go_num, by go_num, by omega, HE.out⟩
        case measure => simp [intOf]; omega
      · simp only [Nat.reducePow, Nat.mul_one, Nat.reduceAdd, Nat.pow_zero] at *
        by_cases c1 : 2147483647 < x + v % 128 * 128
        · have e := (O1.out (.inl c1)).symm.trans HO.out
          simp only [Prod.mk.injEq] at e
          obtain ⟨rfl, rfl, rfl⟩ := e
          have c1' : (2147483647 : Int) < (x : Int) + (v : Int) % 128 * 128 := by omega
          clear O1 O2 O3 O4 HO
          go_wp2
          go_ret3
          exact ⟨rfl, rfl⟩
        have c1' : ¬ (2147483647 : Int) < (x : Int) + (v : Int) % 128 * 128 := by omega
        have hno : ¬ (2147483647 < x + v % 128 * 128 ∨ ((1 : Nat) = 4 ∧ 128 ≤ v)) := by omega
        by_cases c4 : v = 0
        · have e := (O2.out hno ⟨by omega, c4⟩).symm.trans HO.out
          simp only [Prod.mk.injEq] at e
          obtain ⟨rfl, rfl, rfl⟩ := e
          subst c4
          simp only [Int.natCast_zero] at hcl
          clear O1 O2 O3 O4 HO hno c1 c1'
          go_wp2
          go_ret3
          exact ⟨rfl, rfl⟩
        have c4' : ((v : Int) == 0) = false := by simp; omega
        by_cases c5 : v < 128
        · have e := (O3.out hno (by omega) c5).symm.trans HO.out
          simp only [Prod.mk.injEq] at e
          obtain ⟨rfl, rfl, rfl⟩ := e
          clear O1 O2 O3 O4 HO hno
          go_wp2
          go_ret3
          refine ⟨?_, rfl⟩
          simp
        have e := (O4.out hno (by omega) c5).symm.trans HO.out
        have HE := Lib.hid e
        clear O1 O2 O3 O4 HO hno e
        go_wp2
        go_round
        case rel => exact ⟨2, x + v % 128 * 128, by omega, by omega, by go_num, by go_num, by go_num, by omega, HE.out⟩
        case measure => simp [intOf]; omega
      · simp only [Nat.reducePow, Nat.mul_one, Nat.reduceAdd, Nat.pow_zero] at *
        by_cases c1 : 2147483647 < x + v % 128 * 16384
        · have e := (O1.out (.inl c1)).symm.trans HO.out
          simp only [Prod.mk.injEq] at e
          obtain ⟨rfl, rfl, rfl⟩ := e
          have c1' : (2147483647 : Int) < (x : Int) + (v : Int) % 128 * 16384 := by omega
          clear O1 O2 O3 O4 HO
          go_wp2
          go_ret3
          exact ⟨rfl, rfl⟩
        have c1' : ¬ (2147483647 : Int) < (x : Int) + (v : Int) % 128 * 16384 := by omega
        have hno : ¬ (2147483647 < x + v % 128 * 16384 ∨ ((2 : Nat) = 4 ∧ 128 ≤ v)) := by omega
        by_cases c4 : v = 0
        · have e := (O2.out hno ⟨by omega, c4⟩).symm.trans HO.out
          simp only [Prod.mk.injEq] at e
          obtain ⟨rfl, rfl, rfl⟩ := e
          subst c4
          simp only [Int.natCast_zero] at hcl
          clear O1 O2 O3 O4 HO hno c1 c1'
          go_wp2
          go_ret3
          exact ⟨rfl, rfl⟩
        have c4' : ((v : Int) == 0) = false := by simp; omega
        by_cases c5 : v < 128
        · have e := (O3.out hno (by omega) c5).symm.trans HO.out
          simp only [Prod.mk.injEq] at e
          obtain ⟨rfl, rfl, rfl⟩ := e
          clear O1 O2 O3 O4 HO hno
          go_wp2
          go_ret3
          refine ⟨?_, rfl⟩
          simp
        have e := (O4.out hno (by omega) c5).symm.trans HO.out
        have HE := Lib.hid e
        clear O1 O2 O3 O4 HO hno e
        go_wp2
        go_round
        case rel => exact ⟨3, x + v % 128 * 16384, by omega, by omega, by go_num, by go_num, by go_num, by omega, HE.out⟩
        case measure => simp [intOf]; omega
      · simp only [Nat.reducePow, Nat.mul_one, Nat.reduceAdd, Nat.pow_zero] at *
        by_cases c1 : 2147483647 < x + v % 128 * 2097152
        · have e := (O1.out (.inl c1)).symm.trans HO.out
          simp only [Prod.mk.injEq] at e
          obtain ⟨rfl, rfl, rfl⟩ := e
          have c1' : (2147483647 : Int) < (x : Int) + (v : Int) % 128 * 2097152 := by omega
          clear O1 O2 O3 O4 HO
          go_wp2
          go_ret3
          exact ⟨rfl, rfl⟩
        have c1' : ¬ (2147483647 : Int) < (x : Int) + (v : Int) % 128 * 2097152 := by omega
        have hno : ¬ (2147483647 < x + v % 128 * 2097152 ∨ ((3 : Nat) = 4 ∧ 128 ≤ v)) := by omega
        by_cases c4 : v = 0
        · have e := (O2.out hno ⟨by omega, c4⟩).symm.trans HO.out
          simp only [Prod.mk.injEq] at e
          obtain ⟨rfl, rfl, rfl⟩ := e
          subst c4
          simp only [Int.natCast_zero] at hcl
          clear O1 O2 O3 O4 HO hno c1 c1'
          go_wp2
          go_ret3
          exact ⟨rfl, rfl⟩
        have c4' : ((v : Int) == 0) = false := by simp; omega
        by_cases c5 : v < 128
        · have e := (O3.out hno (by omega) c5).symm.trans HO.out
          simp only [Prod.mk.injEq] at e
          obtain ⟨rfl, rfl, rfl⟩ := e
          clear O1 O2 O3 O4 HO hno
          go_wp2
          go_ret3
          refine ⟨?_, rfl⟩
          simp
        have e := (O4.out hno (by omega) c5).symm.trans HO.out
        have HE := Lib.hid e
        clear O1 O2 O3 O4 HO hno e
        go_wp2
        go_round
        case rel => exact ⟨4, x + v % 128 * 2097152, by omega, by omega, by go_num, by go_num, by go_num, by omega, HE.out⟩
        case measure => simp [intOf]; omega
      · simp only [Nat.reducePow, Nat.mul_one, Nat.reduceAdd, Nat.pow_zero] at *
        by_cases c1 : 2147483647 < x + v % 128 * 268435456
        · have e := (O1.out (.inl c1)).symm.trans HO.out
          simp only [Prod.mk.injEq] at e
          obtain ⟨rfl, rfl, rfl⟩ := e
          have c1' : (2147483647 : Int) < (x : Int) + (v : Int) % 128 * 268435456 := by omega
          clear O1 O2 O3 O4 HO
          go_wp2
          go_ret3
          exact ⟨rfl, rfl⟩
        have c1' : ¬ (2147483647 : Int) < (x : Int) + (v : Int) % 128 * 268435456 := by omega
        by_cases c2 : 128 ≤ v
        · have e := (O1.out (.inr ⟨trivial, c2⟩)).symm.trans HO.out
          simp only [Prod.mk.injEq] at e
          obtain ⟨rfl, rfl, rfl⟩ := e
          clear O1 O2 O3 O4 HO
          go_wp2
          go_ret3
          exact ⟨rfl, rfl⟩
        have hno : ¬ (2147483647 < x + v % 128 * 268435456 ∨ (True ∧ 128 ≤ v)) := by omega
        by_cases c4 : v = 0
        · have e := (O2.out hno ⟨by omega, c4⟩).symm.trans HO.out
          simp only [Prod.mk.injEq] at e
          obtain ⟨rfl, rfl, rfl⟩ := e
          subst c4
          simp only [Int.natCast_zero] at hcl
          clear O1 O2 O3 O4 HO hno c1 c1'
          go_wp2
          go_ret3
          exact ⟨rfl, rfl⟩
        have c4' : ((v : Int) == 0) = false := by simp; omega
        by_cases c5 : v < 128
        · have e := (O3.out hno (by omega) c5).symm.trans HO.out
          simp only [Prod.mk.injEq] at e
          obtain ⟨rfl, rfl, rfl⟩ := e
          clear O1 O2 O3 O4 HO hno
          go_wp2
          go_ret3
          refine ⟨?_, rfl⟩
          simp
        omega
    · have hkr : k = r.length := by omega
      subst hkr
      have e := HX.out
      rw [List.drop_length] at e
      simp only [getFrom, Prod.mk.injEq] at e
      obtain ⟨rfl, rfl, rfl⟩ := e
      clear HX HC
      go_wp2
      go_ret3
      exact ⟨rfl, rfl⟩

theorem rget_any (l : List UInt8) (s : Int) (A : Option Addr) (n c : Nat) (hn : n = l.length) (hm : l.length ≤ 140737488355328) (B : Nat) (w : World) (hr : Reads w B 1 A l.length (bs l)) :
    Calls Tryd.prog 20 #[.slice A n c, .int .i64 s] w fun e w' => e = .returned (.tuple #[.int .i64 (getV l s).1, .int .i64 (getV l s).2.1, .int .i64 ((getV l s).2.2 : Nat)]) ∧ w = w' := by
  subst hn
  by_cases h1 : s < 1 ∨ 8 < s
  · have e1 : getV l s = (0, 0, 1) := by simp [getV, h1]
    rw [e1]
    clear e1 hr
    rcases h1 with h1 | h1
    all_goals
      go_enter Tryd.func20, Tryd.ntmps20
      go_wp2
      go_ret3
      exact ⟨rfl, rfl⟩
  obtain ⟨t, rfl⟩ := Int.eq_ofNat_of_zero_le (show 0 ≤ s by omega)
  match l, hm, hr with
  | [], hm, hr =>
    have e1 : getV [] (t : Int) = (0, 0, 8) := by simp [getV, h1]
    rw [e1]
    simp only [List.length_nil]
    clear e1 hr
    go_enter Tryd.func20, Tryd.ntmps20
    go_wp2
    go_ret3
    exact ⟨rfl, rfl⟩
  | c0 :: r, hm, hr =>
    simp only [List.length_cons] at hm hr
    by_cases hlt : c0.toNat % 2 ^ t < 2 ^ t - 1
    · have e1 : getV (c0 :: r) (t : Int) = (c0.toNat % 2 ^ t, 1, 0) := by simp [getV, h1, hlt]
      rw [e1]
      exact rget_one r c0 t (by omega) (by omega) A _ c rfl B w hr hlt
    · have e1 : getV (c0 :: r) (t : Int) = getFrom 0 (c0.toNat % 2 ^ t) r := by simp [getV, h1, hlt]
      rw [e1]
      exact rget_more r c0 t (by omega) (by omega) A _ c rfl (by omega) B w hr hlt _ _ _ rfl
end Go.Proofs.YtkbbkamnmdeagaaDoor
