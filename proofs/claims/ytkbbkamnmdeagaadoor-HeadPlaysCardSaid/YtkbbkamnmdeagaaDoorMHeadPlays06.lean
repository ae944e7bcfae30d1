/-
  wire.Get by its contract. No condition.
  wire.Get by one contract. Condition: the length's bound.
  wire.Put by one contract. No condition.
  A text as bytes: the contract of head.Text. Condition: none (a text over 400 bytes is a fault).
-/
import Derived.Test.YtkbbkamnmdeagaaDoorMHeadPlays05
import Derived.Test.YtkbbkamnmdeagaaDoorMHeadPlays03
import Derived.Test.YtkbbkamnmdeagaaDoorMHeadPlays01
import Derived.Test.YtkbbkamnmdeagaaDoorDec
namespace Go.Proofs.YtkbbkamnmdeagaaDoor
open Go.RowKit

theorem wrap64_in (x : Int) (h : -9223372036854775808 ≤ x) (h2 : x ≤ 9223372036854775807) : wrap64 x = x := by
  unfold wrap64
  omega
theorem wrap64_pow (t : Nat) (h : t ≤ 8) : wrap64 ((2 : Int) ^ t) = ((2 ^ t : Nat) : Int) := by
  have e : ((2 : Int) ^ t) = ((2 ^ t : Nat) : Int) := by simp
  rw [e]
  have h2 : 2 ^ t ≤ 2 ^ 8 := Nat.pow_le_pow_right (by omega) h
  generalize 2 ^ t = p at *
  exact wrap64_in _ (by omega) (by omega)
theorem wrap64_shift (y k : Nat) (hy : y ≤ 127) (hk : k ≤ 4) : wrap64 ((y : Int) * 2 ^ (7 * k)) = ((y * 128 ^ k : Nat) : Int) := by
  have hpw := pow128_le hk
  have hz : y * 128 ^ k ≤ 127 * 268435456 := Nat.mul_le_mul hy hpw.2
  have e : ((y : Int) * 2 ^ (7 * k)) = ((y * 128 ^ k : Nat) : Int) := by
    rw [← pow128]
    simp
  rw [e]
  exact wrap64_in _ (by omega) (by omega)

/-- The first byte alone says the number. -/
theorem wget_one (r : List UInt8) (c0 : UInt8) (t : Nat) (ht : 1 ≤ t) (ht8 : t ≤ 8) (A : Option Addr) (n c : Nat) (hn : n = r.length + 1) (B : Nat) (w : World) (hr : Reads w B 1 A (r.length + 1) (bs (c0 :: r)))
    (hlt : c0.toNat % 2 ^ t < 2 ^ t - 1) :
    Calls Tryd.prog 21 #[.slice A n c, .int .i64 t] w fun e w' => e = .returned (.tuple #[.int .i64 (c0.toNat % 2 ^ t : Nat), .int .i64 1, .nilIface]) ∧ w = w' := by
  subst hn
  obtain ⟨b, off, rfl, _, hc⟩ := reads_byte (l := c0 :: r) hr (k := 0) (by simp)
  have h0 : w.cell? ⟨b, off, none⟩ = some (.int .u8 (c0.toNat : Int)) := hc
  have hb : c0.toNat < 256 := c0.toNat_lt
  have hp := pow2_bounds ht ht8
  have hm := i64_mask c0.toNat t (by omega) (by omega)
  have hs := wrap64_pow t ht8
  clear hc hr
  generalize c0.toNat % 2 ^ t = x at *
  generalize c0.toNat = y at *
  generalize 2 ^ t = p at *
  have hlt' : (x : Int) < (p : Int) - 1 := by omega
  clear hlt
  go_enter Tryd.func21, Tryd.ntmps21
  go_wp2
  all_goals go_ret3
  all_goals exact ⟨rfl, rfl⟩

set_option maxRecDepth 100000 in
set_option maxHeartbeats 4000000 in
theorem wget_more (r : List UInt8) (c0 : UInt8) (t : Nat) (ht : 1 ≤ t) (ht8 : t ≤ 8) (A : Option Addr) (n c : Nat) (hn : n = r.length + 1) (hcap : r.length + 1 ≤ c) (hm : r.length ≤ 140737488355328) (B : Nat) (w : World) (hr : Reads w B 1 A (r.length + 1) (bs (c0 :: r)))
    (hlt : ¬ c0.toNat % 2 ^ t < 2 ^ t - 1) (N U E : Nat) (hR : getFrom 0 (c0.toNat % 2 ^ t) r = (N, U, E)) :
    Calls Tryd.prog 21 #[.slice A n c, .int .i64 t] w fun e w' => e = .returned (.tuple #[.int .i64 (N : Int), .int .i64 (U : Int), errV E]) ∧ w = w' := by
  subst hn
  obtain ⟨b, off, rfl, hbB, hall⟩ := hr.form (by omega)
  have h0 : w.cell? ⟨b, off, none⟩ = some (.int .u8 (c0.toNat : Int)) := hall 0 _ rfl
  have HC : Hid (∀ k (hk : k < r.length), w.cell? ⟨b, off + 1 + k, none⟩ = some (.int .u8 (r[k].toNat : Int))) := by
    intro k hk
    have := hall (k + 1) (.int .u8 (r[k].toNat : Int)) (by simp [bs, hk])
    rwa [Nat.add_assoc, Nat.add_comm 1 k]
  have hb : c0.toNat < 256 := c0.toNat_lt
  have hp := pow2_bounds ht ht8
  have HMK := Lib.hid (i64_mask c0.toNat t (by omega) (by omega))
  have HS := Lib.hid (wrap64_pow t ht8)
  have hx8 := Nat.mod_lt c0.toNat (show 0 < 2 ^ t by omega)
  have HR := Lib.hid hR
  have H0 := Lib.hid h0
  clear hall hr hR hbB h0
  generalize c0.toNat % 2 ^ t = x0 at *
  generalize c0.toNat = y0 at *
  generalize 2 ^ t = p at *
  have hd : decide ((x0 : Int) < (p : Int) - 1) = false := by simp; omega
  have ht1 : decide ((t : Int) < 1) = false := by simp; omega
  have ht9 : decide ((8 : Int) < (t : Int)) = false := by simp; omega
  have hx0 : x0 ≤ 255 := by omega
  clear hlt
  by_cases hone : r.length = 0
  · have hr0 : r = [] := List.eq_nil_of_length_eq_zero hone
    subst hr0
    have hO := HR.out
    simp only [getFrom, Prod.mk.injEq] at hO
    obtain ⟨rfl, rfl, rfl⟩ := hO
    clear HR HC hone
    simp only [List.length_nil, Nat.zero_add] at *
    have h0 := H0.out
    have hmk := HMK.out
    have hs := HS.out
    go_enter Tryd.func21, Tryd.ntmps21
    go_wp2
    all_goals
      refine wp_loop_rounds 1 ?_
      rw [rounds_succ]
      go_wp2
      go_ret3
      exact ⟨rfl, rfl⟩
  have hc2 : 2 ≤ c := by omega
  have hr1 : 1 ≤ r.length := by omega
  clear hone
  have h0 := H0.out
  have hmk := HMK.out
  have hs := HS.out
  go_enter Tryd.func21, Tryd.ntmps21
  go_wp2
  clear hmk hs h0 H0 HMK HS
  go_loop [4, 8, 9, 37] (fun n _ _ i => ∃ k x : Nat, k ≤ 4 ∧ k ≤ r.length ∧ i = .int .i64 k ∧ n = .int .i64 x ∧ x ≤ 2147483647 ∧ Hid (getFrom k x (r.drop k) = (N, U, E))) (fun _ _ _ i => r.length - (intOf i).toNat)
  case atStart => exact ⟨0, x0, by omega, by omega, rfl, rfl, by omega, HR⟩
  case round =>
    obtain ⟨k, x, hk4, hk, rfl, rfl, hx, HX⟩ := hrel
    clear HR
    by_cases hlt : k < r.length
    · have hcl := HC.out k hlt
      have hyb := r[k].toNat_lt
      have hdrop := List.drop_eq_getElem_cons hlt
      have hym := Nat.mod_lt r[k].toNat (show 0 < 128 by omega)
      have hpw := pow128_le hk4
      have hz : r[k].toNat % 128 * 128 ^ k ≤ 127 * 268435456 := Nat.mul_le_mul (by omega) hpw.2
      have hOO := HX.out
      rw [hdrop] at hOO
      have HO := Lib.hid hOO
      have HM := Lib.hid (u8_mask7 r[k].toNat (by omega))
      clear hOO hdrop HC HX
      have O1 := Lib.hid (@getFrom_over k x r[k] (r.drop (k + 1)))
      have O2 := Lib.hid (@getFrom_zero k x r[k] (r.drop (k + 1)))
      have O3 := Lib.hid (@getFrom_done k x r[k] (r.drop (k + 1)))
      have O4 := Lib.hid (@getFrom_next k x r[k] (r.drop (k + 1)))
      generalize getFrom k x (r[k] :: r.drop (k + 1)) = G at *
      generalize hyv : r[k].toNat % 128 = y at *
      have HYV := Lib.hid hyv
      clear hyv
      generalize r[k].toNat = v at *
      clear hpw hz
      rcases (by omega : k = 0 ∨ k = 1 ∨ k = 2 ∨ k = 3 ∨ k = 4) with rfl | rfl | rfl | rfl | rfl
      · simp only [Nat.reducePow, Nat.mul_one, Nat.reduceAdd, Nat.pow_zero] at *
        have hmask := HM.out
        clear HM
        by_cases c1 : 2147483647 < x + y
        · have e := (O1.out (.inl c1)).symm.trans HO.out
          simp only [Prod.mk.injEq] at e
          obtain ⟨rfl, rfl, rfl⟩ := e
          have c1' : (2147483647 : Int) < (x : Int) + (y : Int) := by omega
          clear O1 O2 O3 O4 HO
          go_wp2
          go_ret3
          exact ⟨rfl, rfl⟩
        have c1' : ¬ (2147483647 : Int) < (x : Int) + (y : Int) := by omega
        have hno : ¬ (2147483647 < x + y ∨ ((0 : Nat) = 4 ∧ 128 ≤ v)) := by omega
        by_cases c5 : v < 128
        · have e := (O3.out hno (by omega) c5).symm.trans HO.out
          simp only [Prod.mk.injEq] at e
          obtain ⟨rfl, rfl, rfl⟩ := e
          clear O1 O2 O3 O4 HO hno
          go_wp2
          go_ret3
          exact ⟨by simp [errV], rfl⟩
        have e := (O4.out hno (by omega) c5).symm.trans HO.out
        have HE := Lib.hid e
        clear O1 O2 O3 O4 HO hno e
        go_wp2
        go_round
        case rel => exact ⟨1, x + y, by omega, by omega, by go_num, by go_num, by omega, HE.out⟩
        case measure => simp [intOf]; omega
      · simp only [Nat.reducePow, Nat.mul_one, Nat.reduceAdd, Nat.pow_zero] at *
        have hmask := HM.out
        clear HM
        by_cases c1 : 2147483647 < x + y * 128
        · have e := (O1.out (.inl c1)).symm.trans HO.out
          simp only [Prod.mk.injEq] at e
          obtain ⟨rfl, rfl, rfl⟩ := e
          have c1' : (2147483647 : Int) < (x : Int) + (y : Int) * 128 := by omega
          clear O1 O2 O3 O4 HO
          go_wp2
          go_ret3
          exact ⟨rfl, rfl⟩
        have c1' : ¬ (2147483647 : Int) < (x : Int) + (y : Int) * 128 := by omega
        have hno : ¬ (2147483647 < x + y * 128 ∨ ((1 : Nat) = 4 ∧ 128 ≤ v)) := by omega
        by_cases c4 : v = 0
        · have e := (O2.out hno ⟨by omega, c4⟩).symm.trans HO.out
          simp only [Prod.mk.injEq] at e
          obtain ⟨rfl, rfl, rfl⟩ := e
          subst c4
          have hy0 : y = 0 := by have := HYV.out; omega
          subst hy0
          have hx' : decide ((2147483647 : Int) < (x : Int)) = false := by simp; omega
          have hm0 : bits .and .u8 (0 : Int) 127 = 0 := u8_mask7 0 (by decide)
          clear O1 O2 O3 O4 HO hno c1 c1' HYV hmask
          go_wp2
          go_ret3
          exact ⟨rfl, rfl⟩
        have c4' : ((v : Int) == 0) = false := by simp; omega
        by_cases c5 : v < 128
        · have e := (O3.out hno (by omega) c5).symm.trans HO.out
          simp only [Prod.mk.injEq] at e
          obtain ⟨rfl, rfl, rfl⟩ := e
          clear O1 O2 O3 O4 HO hno
          go_wp2
          go_ret3
          exact ⟨by simp [errV], rfl⟩
        have e := (O4.out hno (by omega) c5).symm.trans HO.out
        have HE := Lib.hid e
        clear O1 O2 O3 O4 HO hno e
        go_wp2
        go_round
        case rel => exact ⟨2, x + y * 128, by omega, by omega, by go_num, by go_num, by omega, HE.out⟩
        case measure => simp [intOf]; omega
      · simp only [Nat.reducePow, Nat.mul_one, Nat.reduceAdd, Nat.pow_zero] at *
        have hmask := HM.out
        clear HM
        by_cases c1 : 2147483647 < x + y * 16384
        · have e := (O1.out (.inl c1)).symm.trans HO.out
          simp only [Prod.mk.injEq] at e
          obtain ⟨rfl, rfl, rfl⟩ := e
          have c1' : (2147483647 : Int) < (x : Int) + (y : Int) * 16384 := by omega
          clear O1 O2 O3 O4 HO
          go_wp2
          go_ret3
          exact ⟨rfl, rfl⟩
        have c1' : ¬ (2147483647 : Int) < (x : Int) + (y : Int) * 16384 := by omega
        have hno : ¬ (2147483647 < x + y * 16384 ∨ ((2 : Nat) = 4 ∧ 128 ≤ v)) := by omega
        by_cases c4 : v = 0
        · have e := (O2.out hno ⟨by omega, c4⟩).symm.trans HO.out
          simp only [Prod.mk.injEq] at e
          obtain ⟨rfl, rfl, rfl⟩ := e
          subst c4
          have hy0 : y = 0 := by have := HYV.out; omega
          subst hy0
          have hx' : decide ((2147483647 : Int) < (x : Int)) = false := by simp; omega
          have hm0 : bits .and .u8 (0 : Int) 127 = 0 := u8_mask7 0 (by decide)
          clear O1 O2 O3 O4 HO hno c1 c1' HYV hmask
          go_wp2
          go_ret3
          exact ⟨rfl, rfl⟩
        have c4' : ((v : Int) == 0) = false := by simp; omega
        by_cases c5 : v < 128
        · have e := (O3.out hno (by omega) c5).symm.trans HO.out
          simp only [Prod.mk.injEq] at e
          obtain ⟨rfl, rfl, rfl⟩ := e
          clear O1 O2 O3 O4 HO hno
          go_wp2
          go_ret3
          exact ⟨by simp [errV], rfl⟩
        have e := (O4.out hno (by omega) c5).symm.trans HO.out
        have HE := Lib.hid e
        clear O1 O2 O3 O4 HO hno e
        go_wp2
        go_round
        case rel => exact ⟨3, x + y * 16384, by omega, by omega, by go_num, by go_num, by omega, HE.out⟩
        case measure => simp [intOf]; omega
      · simp only [Nat.reducePow, Nat.mul_one, Nat.reduceAdd, Nat.pow_zero] at *
        have hmask := HM.out
        clear HM
        by_cases c1 : 2147483647 < x + y * 2097152
        · have e := (O1.out (.inl c1)).symm.trans HO.out
          simp only [Prod.mk.injEq] at e
          obtain ⟨rfl, rfl, rfl⟩ := e
          have c1' : (2147483647 : Int) < (x : Int) + (y : Int) * 2097152 := by omega
          clear O1 O2 O3 O4 HO
          go_wp2
          go_ret3
          exact ⟨rfl, rfl⟩
        have c1' : ¬ (2147483647 : Int) < (x : Int) + (y : Int) * 2097152 := by omega
        have hno : ¬ (2147483647 < x + y * 2097152 ∨ ((3 : Nat) = 4 ∧ 128 ≤ v)) := by omega
        by_cases c4 : v = 0
        · have e := (O2.out hno ⟨by omega, c4⟩).symm.trans HO.out
          simp only [Prod.mk.injEq] at e
          obtain ⟨rfl, rfl, rfl⟩ := e
          subst c4
          have hy0 : y = 0 := by have := HYV.out; omega
          subst hy0
          have hx' : decide ((2147483647 : Int) < (x : Int)) = false := by simp; omega
          have hm0 : bits .and .u8 (0 : Int) 127 = 0 := u8_mask7 0 (by decide)
          clear O1 O2 O3 O4 HO hno c1 c1' HYV hmask
          go_wp2
          go_ret3
          exact ⟨rfl, rfl⟩
        have c4' : ((v : Int) == 0) = false := by simp; omega
        by_cases c5 : v < 128
        · have e := (O3.out hno (by omega) c5).symm.trans HO.out
          simp only [Prod.mk.injEq] at e
          obtain ⟨rfl, rfl, rfl⟩ := e
          clear O1 O2 O3 O4 HO hno
          go_wp2
          go_ret3
          exact ⟨by simp [errV], rfl⟩
        have e := (O4.out hno (by omega) c5).symm.trans HO.out
        have HE := Lib.hid e
        clear O1 O2 O3 O4 HO hno e
        go_wp2
        go_round
        case rel => exact ⟨4, x + y * 2097152, by omega, by omega, by go_num, by go_num, by omega, HE.out⟩
        case measure => simp [intOf]; omega
      · simp only [Nat.reducePow, Nat.mul_one, Nat.reduceAdd, Nat.pow_zero] at *
        have hmask := HM.out
        clear HM
        by_cases c1 : 2147483647 < x + y * 268435456
        · have e := (O1.out (.inl c1)).symm.trans HO.out
          simp only [Prod.mk.injEq] at e
          obtain ⟨rfl, rfl, rfl⟩ := e
          have c1' : (2147483647 : Int) < (x : Int) + (y : Int) * 268435456 := by omega
          clear O1 O2 O3 O4 HO
          go_wp2
          go_ret3
          exact ⟨rfl, rfl⟩
        have c1' : ¬ (2147483647 : Int) < (x : Int) + (y : Int) * 268435456 := by omega
        by_cases c2 : 128 ≤ v
        · have e := (O1.out (.inr ⟨trivial, c2⟩)).symm.trans HO.out
          simp only [Prod.mk.injEq] at e
          obtain ⟨rfl, rfl, rfl⟩ := e
          clear O1 O2 O3 O4 HO
          go_wp2
          go_ret3
          exact ⟨rfl, rfl⟩
        have hno : ¬ (2147483647 < x + y * 268435456 ∨ (True ∧ 128 ≤ v)) := by omega
        by_cases c4 : v = 0
        · have e := (O2.out hno ⟨by omega, c4⟩).symm.trans HO.out
          simp only [Prod.mk.injEq] at e
          obtain ⟨rfl, rfl, rfl⟩ := e
          subst c4
          have hy0 : y = 0 := by have := HYV.out; omega
          subst hy0
          have hx' : decide ((2147483647 : Int) < (x : Int)) = false := by simp; omega
          have hm0 : bits .and .u8 (0 : Int) 127 = 0 := u8_mask7 0 (by decide)
          clear O1 O2 O3 O4 HO hno c1 c1' HYV hmask
          go_wp2
          go_ret3
          exact ⟨rfl, rfl⟩
        have c4' : ((v : Int) == 0) = false := by simp; omega
        by_cases c5 : v < 128
        · have e := (O3.out hno (by omega) c5).symm.trans HO.out
          simp only [Prod.mk.injEq] at e
          obtain ⟨rfl, rfl, rfl⟩ := e
          clear O1 O2 O3 O4 HO hno
          go_wp2
          go_ret3
          exact ⟨by simp [errV], rfl⟩
        omega
    · have hkr : k = r.length := by omega
      subst hkr
      have e := HX.out
      rw [List.drop_length] at e
      simp only [getFrom, Prod.mk.injEq] at e
      obtain ⟨rfl, rfl, rfl⟩ := e
      clear HX HC
      go_wp2
      go_ret3
      exact ⟨rfl, rfl⟩
end Go.Proofs.YtkbbkamnmdeagaaDoor
namespace Go.Proofs.YtkbbkamnmdeagaaDoor
open Go.RowKit

theorem wget_any (l : List UInt8) (s : Int) (A : Option Addr) (n c : Nat) (hn : n = l.length) (hcap : l.length ≤ c) (hm : l.length ≤ 140737488355328) (B : Nat) (w : World) (hr : Reads w B 1 A l.length (bs l)) :
    Calls Tryd.prog 21 #[.slice A n c, .int .i64 s] w fun e w' => e = .returned (.tuple #[.int .i64 (getV l s).1, .int .i64 (getV l s).2.1, errV (getV l s).2.2]) ∧ w = w' := by
  subst hn
  by_cases h1 : s < 1 ∨ 8 < s
  · have e1 : getV l s = (0, 0, 1) := by simp [getV, h1]
    rw [e1]
    clear e1 hr
    rcases h1 with h1 | h1
    all_goals
      go_enter Tryd.func21, Tryd.ntmps21
      go_wp2
      go_ret3
      exact ⟨rfl, rfl⟩
  obtain ⟨t, rfl⟩ := Int.eq_ofNat_of_zero_le (show 0 ≤ s by omega)
  match l, hcap, hm, hr with
  | [], hcap, hm, hr =>
    have e1 : getV [] (t : Int) = (0, 0, 8) := by simp [getV, h1]
    rw [e1]
    simp only [List.length_nil]
    clear e1 hr
    go_enter Tryd.func21, Tryd.ntmps21
    go_wp2
    go_ret3
    exact ⟨rfl, rfl⟩
  | c0 :: r, hcap, hm, hr =>
    simp only [List.length_cons] at hcap hm hr
    by_cases hlt : c0.toNat % 2 ^ t < 2 ^ t - 1
    · have e1 : getV (c0 :: r) (t : Int) = (c0.toNat % 2 ^ t, 1, 0) := by simp [getV, h1, hlt]
      rw [e1]
      exact wget_one r c0 t (by omega) (by omega) A _ c rfl B w hr hlt
    · have e1 : getV (c0 :: r) (t : Int) = getFrom 0 (c0.toNat % 2 ^ t) r := by simp [getV, h1, hlt]
      rw [e1]
      exact wget_more r c0 t (by omega) (by omega) A _ c rfl hcap (by omega) B w hr hlt _ _ _ rfl
end Go.Proofs.YtkbbkamnmdeagaaDoor
namespace Go.Proofs.YtkbbkamnmdeagaaDoor
open Go.RowKit

theorem putN_pos {n t first : Nat} (h : ¬ n < 2 ^ t - 1) : putN n t first = UInt8.ofNat (first + (2 ^ t - 1)) :: cont (n - (2 ^ t - 1)) := by rw [putN, if_neg h]
theorem putN_one {n t first : Nat} (h : n < 2 ^ t - 1) : putN n t first = [UInt8.ofNat (first + n)] := by rw [putN, if_pos h]
theorem bs_single (c : UInt8) (z : Int) (h : (c.toNat : Int) = z) : bs [c] = [.int .u8 z] := by simp [bs, h]
theorem wput_one (n f t : Nat) (ht : 1 ≤ t) (ht8 : t ≤ 8) (hf : f ≤ 255) (hf0 : f % 2 ^ t = 0) (hlt : n < 2 ^ t - 1) (w : World) :
    Calls Tryd.prog 19 #[.int .i64 n, .int .i64 t, .int .i64 f] w fun e w' => ∃ v, e = .returned (.tuple #[v, .nilIface]) ∧ w'.ownsRow w.heap.size 5 1 v (putN n t f).length (bs (putN n t f)) ∧ Below w.heap.size w w' := by
  have hp := pow2_bounds ht ht8
  rw [putN_one hlt]
  have HS := Lib.hid (wrap64_pow t ht8)
  have HMK := Lib.hid (i64_mask f t (by omega) (by omega))
  have hq : f = f / 2 ^ t * 2 ^ t := by
    have := Nat.div_add_mod f (2 ^ t)
    rw [hf0, Nat.mul_comm] at this
    omega
  have hsum : f + n ≤ 255 := by
    have h1 : f / 2 ^ t * 2 ^ t + 2 ^ t ≤ 256 := by
      rcases (by omega : t = 1 ∨ t = 2 ∨ t = 3 ∨ t = 4 ∨ t = 5 ∨ t = 6 ∨ t = 7 ∨ t = 8) with rfl | rfl | rfl | rfl | rfl | rfl | rfl | rfl <;> simp only [Nat.reducePow] at * <;> omega
    omega
  have HOR := Lib.hid (i64_or_low (f / 2 ^ t) n t (by omega) (by omega) (by omega))
  rw [hf0] at HMK
  rw [← hq] at HOR
  clear hq hf0
  generalize 2 ^ t = p at *
  have h1 : (n : Int) < (p : Int) - 1 := by omega
  have hs := HS.out
  have hmk := HMK.out
  have hor := HOR.out
  clear HS HMK HOR hlt
  go_enter Tryd.func19, Tryd.ntmps19
  go_wp2
  go_ret2
  refine ⟨_, rfl, own_new w _ _ _ 1 ?_ (by simp [bs]) (by decide), (Below.refl _ _).alloc (Nat.le_refl _) _⟩
  rw [bs_single (UInt8.ofNat (f + n)) ((f : Int) + n) (by simp only [UInt8.toNat_ofNat']; omega)]

set_option maxRecDepth 100000 in
set_option maxHeartbeats 1000000 in
theorem wput_more (n f t : Nat) (ht : 1 ≤ t) (ht8 : t ≤ 8) (hn : n ≤ 2147483647) (hf : f ≤ 255) (hf0 : f % 2 ^ t = 0) (hlt : ¬ n < 2 ^ t - 1) (w : World) :
    Calls Tryd.prog 19 #[.int .i64 n, .int .i64 t, .int .i64 f] w fun e w' => ∃ v, e = .returned (.tuple #[v, .nilIface]) ∧ w'.ownsRow w.heap.size 5 1 v (putN n t f).length (bs (putN n t f)) ∧ Below w.heap.size w w' := by
  have hp := pow2_bounds ht ht8
  have HL := Lib.hid (putN_pos (first := f) hlt)
  generalize putN n t f = L at *
  have HS := Lib.hid (wrap64_pow t ht8)
  have HMK := Lib.hid (i64_mask f t (by omega) (by omega))
  have hq : f = f / 2 ^ t * 2 ^ t := by
    have := Nat.div_add_mod f (2 ^ t)
    rw [hf0, Nat.mul_comm] at this
    omega
  have hsum : f + (2 ^ t - 1) ≤ 255 := by
    have h1 : f / 2 ^ t * 2 ^ t + 2 ^ t ≤ 256 := by
      rcases (by omega : t = 1 ∨ t = 2 ∨ t = 3 ∨ t = 4 ∨ t = 5 ∨ t = 6 ∨ t = 7 ∨ t = 8) with rfl | rfl | rfl | rfl | rfl | rfl | rfl | rfl <;> simp only [Nat.reducePow] at * <;> omega
    omega
  have hor0 := i64_or_low (f / 2 ^ t) (2 ^ t - 1) t (by omega) (by omega) (by omega)
  rw [← hq, show ((2 ^ t - 1 : Nat) : Int) = ((2 ^ t : Nat) : Int) - 1 by omega] at hor0
  have HOR := Lib.hid hor0
  rw [hf0] at HMK
  clear hq hf0 hor0
  generalize 2 ^ t = p at *
  have h1 : decide ((n : Int) < (p : Int) - 1) = false := by simp; omega
  have ht1 : decide ((t : Int) < 1) = false := by simp; omega
  have ht9 : decide ((8 : Int) < (t : Int)) = false := by simp; omega
  have hn9 : decide ((2147483647 : Int) < (n : Int)) = false := by simp; omega
  have hf9 : decide ((255 : Int) < (f : Int)) = false := by simp; omega
  have hs := HS.out
  have hmk := HMK.out
  have hor := HOR.out
  clear HS HMK HOR
  go_enter Tryd.func19, Tryd.ntmps19
  go_wp2
  clear hs hmk hor
  go_loopw [0, 9] (fun x b wr => ∃ (m : Nat) (xs : List UInt8), x = .int .i64 m ∧ 1 ≤ xs.length ∧ xs.length + m ≤ 2147483648 ∧ wr.ownsRow w.heap.size 5 1 b xs.length (bs xs) ∧ Below w.heap.size w wr ∧ Hid (xs ++ cont m = L)) (fun x _ _ => (intOf x).toNat)
  case atStart =>
    refine ⟨n - (p - 1), [UInt8.ofNat (f + (p - 1))], by go_num, by simp, by simp; omega, ?_, (Below.refl _ _).alloc (Nat.le_refl _) _, HL.out.symm⟩
    refine own_new w _ _ _ 1 ?_ (by simp [bs]) (by decide)
    rw [bs_single (UInt8.ofNat (f + (p - 1))) ((f : Int) + ((p : Int) - 1)) (by simp only [UInt8.toNat_ofNat']; omega)]
    first | rfl | (simp; omega)
  case round =>
    obtain ⟨m, xs, rfl, hx1, hxm, hown, hb, HX⟩ := hrel
    clear HL
    have hsz := hb.size
    by_cases hge : m < 128
    · have hm : (m : Int) % 256 = m := by omega
      have e := HX.out
      rw [cont_last hge] at e
      have HE := Lib.hid e
      clear e HX hn9 hf9 ht1 ht9 h1
      go_wp2_with (at_builtin; refine wpList_push rfl _ _ rfl w.heap.size _ _ _ rfl hown rfl rfl (by omega) hsz ?_; intro v' w' hown' hb')
      go_ret2
      refine ⟨_, rfl, ?_, hb.trans hb'⟩
      rw [← HE.out, bs_append, List.length_append]
      rw [bs_single (UInt8.ofNat m) (m : Int) (by simp only [UInt8.toNat_ofNat']; omega)]
      exact hown'
    · have e := HX.out
      rw [cont_more hge] at e
      have HE := Lib.hid e
      clear e HX
      have hor := u8_or_high (m % 256) (by omega)
      rw [show ((m % 256 : Nat) : Int) = (m : Int) % 256 by omega, show m % 256 % 128 = m % 128 by omega] at hor
      go_wp2_with (at_builtin; refine wpList_push rfl _ _ rfl w.heap.size _ _ _ rfl hown rfl rfl (by omega) hsz ?_; intro v' w' hown' hb')
      go_roundw
      case rel =>
        refine ⟨m / 128, xs ++ [UInt8.ofNat (m % 128 + 128)], by go_num, by simp, by simp; omega, ?_, hb.trans hb', ?_⟩
        · rw [bs_append, List.length_append]
          rw [bs_single (UInt8.ofNat (m % 128 + 128)) ((m % 128 + 128 : Nat) : Int) (by simp only [UInt8.toNat_ofNat']; omega)]
          exact hown'
        · show _ = _
          rw [List.append_assoc]
          exact HE.out
      case measure => simp [intOf]; omega

theorem wput_bad (n bits first : Int) (hb : ¬ putOk n bits first) (w : World) :
    Calls Tryd.prog 19 #[.int .i64 n, .int .i64 bits, .int .i64 first] w fun e w' => e = .returned (.tuple #[.slice none 0 0, .iface 113 (.int .i64 1)]) ∧ w = w' := by
  by_cases h1 : bits < 1
  · clear hb
    go_enter Tryd.func19, Tryd.ntmps19
    go_wp2
    go_ret2
    exact ⟨rfl, rfl⟩
  by_cases h8 : 8 < bits
  · clear hb
    go_enter Tryd.func19, Tryd.ntmps19
    go_wp2
    go_ret2
    exact ⟨rfl, rfl⟩
  by_cases h0 : n < 0
  · clear hb
    go_enter Tryd.func19, Tryd.ntmps19
    go_wp2
    go_ret2
    exact ⟨rfl, rfl⟩
  by_cases hM : 2147483647 < n
  · clear hb
    go_enter Tryd.func19, Tryd.ntmps19
    go_wp2
    go_ret2
    exact ⟨rfl, rfl⟩
  by_cases hf : first < 0
  · clear hb
    go_enter Tryd.func19, Tryd.ntmps19
    go_wp2
    go_ret2
    exact ⟨rfl, rfl⟩
  by_cases hf5 : 255 < first
  · clear hb
    go_enter Tryd.func19, Tryd.ntmps19
    go_wp2
    go_ret2
    exact ⟨rfl, rfl⟩
  have hne : ¬ first % 2 ^ bits.toNat = 0 := fun h => hb ⟨by omega, by omega, by omega, by omega, by omega, by omega, h⟩
  clear hb
  obtain ⟨t, rfl⟩ := Int.eq_ofNat_of_zero_le (show 0 ≤ bits by omega)
  obtain ⟨f, rfl⟩ := Int.eq_ofNat_of_zero_le (show 0 ≤ first by omega)
  rw [Int.toNat_natCast] at hne
  have hne2 : ¬ f % 2 ^ t = 0 := by
    intro h
    apply hne
    have := Int.natCast_emod f (2 ^ t)
    rw [h] at this
    simpa using this.symm
  have hp := pow2_bounds (show 1 ≤ t by omega) (show t ≤ 8 by omega)
  clear hne
  have HS := Lib.hid (wrap64_pow t (by omega))
  have HMK := Lib.hid (i64_mask f t (by omega) (by omega))
  generalize f % 2 ^ t = x at *
  generalize 2 ^ t = p at *
  have hx : ((x : Int) == 0) = false := by simp; omega
  have hs := HS.out
  have hmk := HMK.out
  clear HS HMK hne2
  go_enter Tryd.func19, Tryd.ntmps19
  go_wp2
  go_ret2
  exact ⟨rfl, rfl⟩

theorem wput_any (n bits first : Int) (w : World) :
    Calls Tryd.prog 19 #[.int .i64 n, .int .i64 bits, .int .i64 first] w fun e w' => ∃ v, e = .returned (.tuple #[v, errV (putE n bits first)]) ∧ w'.ownsRow w.heap.size 5 1 v (putL n bits first).length (bs (putL n bits first)) ∧ Below w.heap.size w w' := by
  by_cases h : putOk n bits first
  · have e1 : putE n bits first = 0 := by simp [putE, h]
    have e2 : putL n bits first = putN n.toNat bits.toNat first.toNat := by simp [putL, h]
    rw [e1, e2]
    obtain ⟨h1, h8, h0, hM, hf0, hf5, hmod⟩ := h
    obtain ⟨m, rfl⟩ := Int.eq_ofNat_of_zero_le h0
    obtain ⟨t, rfl⟩ := Int.eq_ofNat_of_zero_le (show 0 ≤ bits by omega)
    obtain ⟨f, rfl⟩ := Int.eq_ofNat_of_zero_le hf0
    simp only [Int.toNat_natCast] at *
    have hmod2 : f % 2 ^ t = 0 := by
      have h2 := Int.natCast_emod f (2 ^ t)
      have h3 : ((f : Int) % ((2 ^ t : Nat) : Int)) = 0 := by simpa using hmod
      omega
    by_cases hlt : m < 2 ^ t - 1
    · exact wput_one m f t (by omega) (by omega) (by omega) hmod2 hlt w
    · exact wput_more m f t (by omega) (by omega) (by omega) (by omega) hmod2 hlt w
  · have e1 : putE n bits first = 1 := by simp [putE, h]
    have e2 : putL n bits first = [] := by simp [putL, h]
    rw [e1, e2]
    refine (wput_bad n bits first h w).mono ?_
    rintro e w' ⟨he, rfl⟩
    exact ⟨_, he, World.ownsRow_nil _ _ _ _, Below.refl _ _⟩
end Go.Proofs.YtkbbkamnmdeagaaDoor
namespace Go.Proofs.YtkbbkamnmdeagaaDoor
open Go.RowKit

theorem encode_gave3 (l : List UInt8) (hl : l.length ≤ 68719476736) (w : World) :
    Calls Tryd.prog 22 #[.string ⟨l.toArray⟩] w fun e w' => ∃ A c, e = .returned (.slice A (enc l).length c) ∧ Gave w w' (enc l) A c := by
  refine (encode_any l hl w).mono ?_
  rintro e w' ⟨v, he, hown, hb⟩
  obtain ⟨A, c, rfl, hg⟩ := gave_of_own hown hb
  exact ⟨A, c, he, hg⟩
theorem txt_own {w' : World} {v : Value} {B : Nat} {a b : List UInt8} (h : w'.ownsRow B 5 1 v (a.length + b.length) (bs a ++ bs b)) : w'.ownsRow B 5 1 v (a ++ b).length (bs (a ++ b)) := by
  rw [List.length_append, bs_append]
  exact h

set_option maxRecDepth 100000 in
set_option maxHeartbeats 4000000 in
theorem htext_any (l : List UInt8) (w : World) (hlm : l.length ≤ 140737488355328) :
    Calls Tryd.prog 34 #[.string ⟨l.toArray⟩] w fun e w' => ∃ v, e = .returned (.tuple #[v, errV (txtE l)]) ∧ w'.ownsRow w.heap.size 5 1 v (txtL l).length (bs (txtL l)) ∧ Below w.heap.size w w' := by
  by_cases h4 : 400 < l.length
  · have e1 : txtE l = 4 := by simp [txtE, h4]
    have e2 : txtL l = [] := by simp [txtL, h4]
    rw [e1, e2]
    go_enter Tryd.func34, Tryd.ntmps34
    go_wp2
    go_ret2
    exact ⟨_, rfl, World.ownsRow_nil _ _ _ _, Below.refl _ _⟩
  · have e1 : txtE l = 0 := by simp [txtE, h4]
    have e2 : txtL l = putL ((txtC l).length : Nat) 7 (txtF l) ++ txtC l := by simp [txtL, h4]
    have HE := Lib.hid (txt_putE l (by omega))
    have HT := Lib.hid e2
    rw [e1, errV_zero]
    clear e1 e2
    by_cases hle : l.length ≤ (enc l).length
    · have e3 : txtC l = l := by simp [txtC, hle]
      have e4 : txtF l = 0 := by simp [txtF, hle]
      rw [e3, e4] at HE HT
      clear e3 e4
      go_enter Tryd.func34, Tryd.ntmps34
      go_wp2_with fail
      refine (encode_gave3 l (by omega) w).mono ?_
      rintro e w1 ⟨A1, c1, rfl, hc1, hr1, hb1⟩
      obtain ⟨c2, w2, hk, hc2, hr2, hb2, hz2⟩ := conv_bytes w1 l
      have hb12 := hb1.trans (hb2.mono hb1.size)
      have HB := Lib.hid hb12
      have hs12 := hb12.size
      clear hr1 hb1 hb2 hb12
      go_wp2_with fail
      refine (wput_any (l.length : Nat) 7 0 w2).mono ?_
      rintro e w3 ⟨v, rfl, hown, hb3⟩
      rw [HE.out, errV_zero]
      have hr3 := hr2.below hb3
      have hs3 := hb3.size
      have hp6 : (putL (l.length : Nat) 7 0).length ≤ 1000 := txt_putL_len _ _ (by omega)
      go_wp2_with (at_builtin; refine wpList_join rfl _ _ rfl w2.heap.size _ _ _ rfl hown w2.heap.size _ l.length c2 (bs l) rfl hr3 (bs_one l) (by omega) hs3 ?_; intro v4 w4 hown4 hb4)
      go_ret2
      refine ⟨_, rfl, ?_, HB.out.trans ((hb3.trans hb4).mono hs12)⟩
      rw [HT.out]
      exact own_mono (txt_own hown4) hs12
    · have e3 : txtC l = enc l := by simp [txtC, hle]
      have e4 : txtF l = 128 := by simp [txtF, hle]
      rw [e3, e4] at HE HT
      clear e3 e4
      go_enter Tryd.func34, Tryd.ntmps34
      go_wp2_with fail
      refine (encode_gave3 l (by omega) w).mono ?_
      rintro e w1 ⟨A1, c1, rfl, hc1, hr1, hb1⟩
      have HB := Lib.hid hb1
      have hs1 := hb1.size
      clear hb1
      go_wp2_with fail
      refine (wput_any ((enc l).length : Nat) 7 128 w1).mono ?_
      rintro e w3 ⟨v, rfl, hown, hb3⟩
      rw [HE.out, errV_zero]
      have hr3 := hr1.below hb3
      have hs3 := hb3.size
      have hp6 : (putL ((enc l).length : Nat) 7 128).length ≤ 1000 := txt_putL_len _ _ (by omega)
      go_wp2_with (at_builtin; refine wpList_join rfl _ _ rfl w1.heap.size _ _ _ rfl hown w1.heap.size _ (enc l).length c1 (bs (enc l)) rfl hr3 (bs_one (enc l)) (by omega) hs3 ?_; intro v4 w4 hown4 hb4)
      go_ret2
      refine ⟨_, rfl, ?_, HB.out.trans ((hb3.trans hb4).mono hs1)⟩
      rw [HT.out]
      exact own_mono (txt_own hown4) hs1
end Go.Proofs.YtkbbkamnmdeagaaDoor
