/-
  wire.Get by its contract. No condition.
-/
import Derived.Test.YtkbbkamnmdeagaaStr
import Derived.Test.YtkbbkamnmdeagaaBytes
import Derived.Test.YtkbbkamnmdeagaaVar
import Derived.Test.YtkbbkamnmdeagaaBitFacts
namespace Go.Proofs.Ytkbbkamnmdeagaa
open Go.RowKit

theorem wrap64_in (x : Int) (h : -9223372036854775808 ≤ x) (h2 : x ≤ 9223372036854775807) : wrap64 x = x := by
  unfold wrap64
  omega
theorem wrap64_pow (t : Nat) (h : t ≤ 8) : wrap64 ((2 : Int) ^ t) = ((2 ^ t : Nat) : Int) := by
  have e : ((2 : Int) ^ t) = ((2 ^ t : Nat) : Int) := by simp
  rw [e]
  have h2 : 2 ^ t ≤ 2 ^ 8 := Nat.pow_le_pow_right (by omega) h
  generalize 2 ^ t = p at *
  exact wrap64_in _ (by omega) (by omega)
theorem wrap64_shift (y k : Nat) (hy : y ≤ 127) (hk : k ≤ 4) : wrap64 ((y : Int) * 2 ^ (7 * k)) = ((y * 128 ^ k : Nat) : Int) := by
  have hpw := pow128_le hk
  have hz : y * 128 ^ k ≤ 127 * 268435456 := Nat.mul_le_mul hy hpw.2
  have e : ((y : Int) * 2 ^ (7 * k)) = ((y * 128 ^ k : Nat) : Int) := by
    rw [← pow128]
    simp
  rw [e]
  exact wrap64_in _ (by omega) (by omega)

/-- The first byte alone says the number. -/
theorem wget_one (r : List UInt8) (c0 : UInt8) (t : Nat) (ht : 1 ≤ t) (ht8 : t ≤ 8) (A : Option Addr) (n c : Nat) (hn : n = r.length + 1) (B : Nat) (w : World) (hr : Reads w B 1 A (r.length + 1) (bs (c0 :: r)))
    (hlt : c0.toNat % 2 ^ t < 2 ^ t - 1) :
    Calls Try.prog 48 #[.slice A n c, .int .i64 t] w fun e w' => e = .returned (.tuple #[.int .i64 (c0.toNat % 2 ^ t : Nat), .int .i64 1, .nilIface]) ∧ w = w' := by
  subst hn
  obtain ⟨b, off, rfl, _, hc⟩ := reads_byte (l := c0 :: r) hr (k := 0) (by simp)
  have h0 : w.cell? ⟨b, off, none⟩ = some (.int .u8 (c0.toNat : Int)) := hc
  have hb : c0.toNat < 256 := c0.toNat_lt
  have hp := pow2_bounds ht ht8
  have hm := i64_mask c0.toNat t (by omega) (by omega)
  have hs := wrap64_pow t ht8
  clear hc hr
  generalize c0.toNat % 2 ^ t = x at *
  generalize c0.toNat = y at *
  generalize 2 ^ t = p at *
  have hlt' : (x : Int) < (p : Int) - 1 := by omega
  clear hlt
  go_enter Try.func48, Try.ntmps48
  go_wp2
  all_goals go_ret3
  all_goals exact ⟨rfl, rfl⟩

set_option maxRecDepth 100000 in
set_option maxHeartbeats 4000000 in
theorem wget_more (r : List UInt8) (c0 : UInt8) (t : Nat) (ht : 1 ≤ t) (ht8 : t ≤ 8) (A : Option Addr) (n c : Nat) (hn : n = r.length + 1) (hcap : r.length + 1 ≤ c) (hm : r.length ≤ 140737488355328) (B : Nat) (w : World) (hr : Reads w B 1 A (r.length + 1) (bs (c0 :: r)))
    (hlt : ¬ c0.toNat % 2 ^ t < 2 ^ t - 1) (N U E : Nat) (hR : getFrom 0 (c0.toNat % 2 ^ t) r = (N, U, E)) :
    Calls Try.prog 48 #[.slice A n c, .int .i64 t] w fun e w' => e = .returned (.tuple #[.int .i64 (N : Int), .int .i64 (U : Int), errV E]) ∧ w = w' := by
  subst hn
  obtain ⟨b, off, rfl, hbB, hall⟩ := hr.form (by omega)
  have h0 : w.cell? ⟨b, off, none⟩ = some (.int .u8 (c0.toNat : Int)) := hall 0 _ rfl
  have HC : Hid (∀ k (hk : k < r.length), w.cell? ⟨b, off + 1 + k, none⟩ = some (.int .u8 (r[k].toNat : Int))) := by
    intro k hk
    have := hall (k + 1) (.int .u8 (r[k].toNat : Int)) (by simp [bs, hk])
    rwa [Nat.add_assoc, Nat.add_comm 1 k]
  have hb : c0.toNat < 256 := c0.toNat_lt
  have hp := pow2_bounds ht ht8
  have HMK := Lib.hid (i64_mask c0.toNat t (by omega) (by omega))
  have HS := Lib.hid (wrap64_pow t ht8)
  have hx8 := Nat.mod_lt c0.toNat (show 0 < 2 ^ t by omega)
  have HR := Lib.hid hR
  have H0 := Lib.hid h0
  clear hall hr hR hbB h0
  generalize c0.toNat % 2 ^ t = x0 at *
  generalize c0.toNat = y0 at *
  generalize 2 ^ t = p at *
  have hd : decide ((x0 : Int) < (p : Int) - 1) = false := by simp; omega
  have ht1 : decide ((t : Int) < 1) = false := by simp; omega
  have ht9 : decide ((8 : Int) < (t : Int)) = false := by simp; omega
  have hx0 : x0 ≤ 255 := by omega
  clear hlt
  by_cases hone : r.length = 0
  · have hr0 : r = [] := List.eq_nil_of_length_eq_zero hone
    subst hr0
    have hO := HR.out
    simp only [getFrom, Prod.mk.injEq] at hO
    obtain ⟨rfl, rfl, rfl⟩ := hO
    clear HR HC hone
    simp only [List.length_nil, Nat.zero_add] at *
    have h0 := H0.out
    have hmk := HMK.out
    have hs := HS.out
    go_enter Try.func48, Try.ntmps48
    go_wp2
    all_goals
      refine wp_loop_rounds 1 ?_
      rw [rounds_succ]
      go_wp2
      go_ret3
      exact ⟨rfl, rfl⟩
  have hc2 : 2 ≤ c := by omega
  have hr1 : 1 ≤ r.length := by omega
  clear hone
  have h0 := H0.out
  have hmk := HMK.out
  have hs := HS.out
  go_enter Try.func48, Try.ntmps48
  go_wp2
  clear hmk hs h0 H0 HMK HS
  go_loop [4, 8, 9, 37] (fun n _ _ i => ∃ k x : Nat, k ≤ 4 ∧ k ≤ r.length ∧ i = .int .i64 k ∧ n = .int .i64 x ∧ x ≤ 2147483647 ∧ Hid (getFrom k x (r.drop k) = (N, U, E))) (fun _ _ _ i => r.length - (intOf i).toNat)
  case atStart => exact ⟨0, x0, by omega, by omega, rfl, rfl, by omega, HR⟩
  case round =>
    obtain ⟨k, x, hk4, hk, rfl, rfl, hx, HX⟩ := hrel
    clear HR
    by_cases hlt : k < r.length
    · have hcl := HC.out k hlt
      have hyb := r[k].toNat_lt
      have hdrop := List.drop_eq_getElem_cons hlt
      have hym := Nat.mod_lt r[k].toNat (show 0 < 128 by omega)
      have hpw := pow128_le hk4
      have hz : r[k].toNat % 128 * 128 ^ k ≤ 127 * 268435456 := Nat.mul_le_mul (by omega) hpw.2
      have hOO := HX.out
      rw [hdrop] at hOO
      have HO := Lib.hid hOO
      have HM := Lib.hid (u8_mask7 r[k].toNat (by omega))
      clear hOO hdrop HC HX
      have O1 := Lib.hid (@getFrom_over k x r[k] (r.drop (k + 1)))
      have O2 := Lib.hid (@getFrom_zero k x r[k] (r.drop (k + 1)))
      have O3 := Lib.hid (@getFrom_done k x r[k] (r.drop (k + 1)))
      have O4 := Lib.hid (@getFrom_next k x r[k] (r.drop (k + 1)))
      generalize getFrom k x (r[k] :: r.drop (k + 1)) = G at *
      generalize hyv : r[k].toNat % 128 = y at *
      have HYV := Lib.hid hyv
      clear hyv
      generalize r[k].toNat = v at *
      clear hpw hz
      rcases (by omega : k = 0 ∨ k = 1 ∨ k = 2 ∨ k = 3 ∨ k = 4) with rfl | rfl | rfl | rfl | rfl
      · simp only [Nat.reducePow, Nat.mul_one, Nat.reduceAdd, Nat.pow_zero] at *
        have hmask := HM.out
        clear HM
        by_cases c1 : 2147483647 < x + y
        · have e := (O1.out (.inl c1)).symm.trans HO.out
          simp only [Prod.mk.injEq] at e
          obtain ⟨rfl, rfl, rfl⟩ := e
          have c1' : (2147483647 : Int) < (x : Int) + (y : Int) := by omega
          clear O1 O2 O3 O4 HO
          go_wp2
          go_ret3
          exact ⟨rfl, rfl⟩
        have c1' : ¬ (2147483647 : Int) < (x : Int) + (y : Int) := by omega
        have hno : ¬ (2147483647 < x + y ∨ ((0 : Nat) = 4 ∧ 128 ≤ v)) := by omega
        by_cases c5 : v < 128
        · have e := (O3.out hno (by omega) c5).symm.trans HO.out
          simp only [Prod.mk.injEq] at e
          obtain ⟨rfl, rfl, rfl⟩ := e
          clear O1 O2 O3 O4 HO hno
          go_wp2
          go_ret3
          exact ⟨by simp [errV], rfl⟩
        have e := (O4.out hno (by omega) c5).symm.trans HO.out
        have HE := Lib.hid e
        clear O1 O2 O3 O4 HO hno e
        go_wp2
        go_round
        case rel => exact ⟨1, x + y, by omega, by omega, by go_num, by go_num, by omega, HE.out⟩
        case measure => simp [intOf]; omega
      · simp only [Nat.reducePow, Nat.mul_one, Nat.reduceAdd, Nat.pow_zero] at *
        have hmask := HM.out
        clear HM
        by_cases c1 : 2147483647 < x + y * 128
        · have e := (O1.out (.inl c1)).symm.trans HO.out
          simp only [Prod.mk.injEq] at e
          obtain ⟨rfl, rfl, rfl⟩ := e
          have c1' : (2147483647 : Int) < (x : Int) + (y : Int) * 128 := by omega
          clear O1 O2 O3 O4 HO
          go_wp2
          go_ret3
          exact ⟨rfl, rfl⟩
        have c1' : ¬ (2147483647 : Int) < (x : Int) + (y : Int) * 128 := by omega
        have hno : ¬ (2147483647 < x + y * 128 ∨ ((1 : Nat) = 4 ∧ 128 ≤ v)) := by omega
        by_cases c4 : v = 0
        · have e := (O2.out hno ⟨by omega, c4⟩).symm.trans HO.out
          simp only [Prod.mk.injEq] at e
          obtain ⟨rfl, rfl, rfl⟩ := e
          subst c4
          have hy0 : y = 0 := by have := HYV.out; omega
          subst hy0
          have hx' : decide ((2147483647 : Int) < (x : Int)) = false := by simp; omega
          have hm0 : bits .and .u8 (0 : Int) 127 = 0 := u8_mask7 0 (by decide)
          clear O1 O2 O3 O4 HO hno c1 c1' HYV hmask
          go_wp2
          go_ret3
          exact ⟨rfl, rfl⟩
        have c4' : ((v : Int) == 0) = false := by simp; omega
        by_cases c5 : v < 128
        · have e := (O3.out hno (by omega) c5).symm.trans HO.out
          simp only [Prod.mk.injEq] at e
          obtain ⟨rfl, rfl, rfl⟩ := e
          clear O1 O2 O3 O4 HO hno
          go_wp2
          go_ret3
          exact ⟨by simp [errV], rfl⟩
        have e := (O4.out hno (by omega) c5).symm.trans HO.out
        have HE := Lib.hid e
        clear O1 O2 O3 O4 HO hno e
        go_wp2
        go_round
        case rel => exact ⟨2, x + y * 128, by omega, by omega, by go_num, by go_num, by omega, HE.out⟩
        case measure => simp [intOf]; omega
      · simp only [Nat.reducePow, Nat.mul_one, Nat.reduceAdd, Nat.pow_zero] at *
        have hmask := HM.out
        clear HM
        by_cases c1 : 2147483647 < x + y * 16384
        · have e := (O1.out (.inl c1)).symm.trans HO.out
          simp only [Prod.mk.injEq] at e
          obtain ⟨rfl, rfl, rfl⟩ := e
          have c1' : (2147483647 : Int) < (x : Int) + (y : Int) * 16384 := by omega
          clear O1 O2 O3 O4 HO
          go_wp2
          go_ret3
          exact ⟨rfl, rfl⟩
        have c1' : ¬ (2147483647 : Int) < (x : Int) + (y : Int) * 16384 := by omega
        have hno : ¬ (2147483647 < x + y * 16384 ∨ ((2 : Nat) = 4 ∧ 128 ≤ v)) := by omega
        by_cases c4 : v = 0
        · have e := (O2.out hno ⟨by omega, c4⟩).symm.trans HO.out
          simp only [Prod.mk.injEq] at e
          obtain ⟨rfl, rfl, rfl⟩ := e
          subst c4
          have hy0 : y = 0 := by have := HYV.out; omega
          subst hy0
          have hx' : decide ((2147483647 : Int) < (x : Int)) = false := by simp; omega
          have hm0 : bits .and .u8 (0 : Int) 127 = 0 := u8_mask7 0 (by decide)
          clear O1 O2 O3 O4 HO hno c1 c1' HYV hmask
          go_wp2
          go_ret3
          exact ⟨rfl, rfl⟩
        have c4' : ((v : Int) == 0) = false := by simp; omega
        by_cases c5 : v < 128
        · have e := (O3.out hno (by omega) c5).symm.trans HO.out
          simp only [Prod.mk.injEq] at e
          obtain ⟨rfl, rfl, rfl⟩ := e
          clear O1 O2 O3 O4 HO hno
          go_wp2
          go_ret3
          exact ⟨by simp [errV], rfl⟩
        have e := (O4.out hno (by omega) c5).symm.trans HO.out
        have HE := Lib.hid e
        clear O1 O2 O3 O4 HO hno e
        go_wp2
        go_round
        case rel => exact ⟨3, x + y * 16384, by omega, by omega, by go_num, by go_num, by omega, HE.out⟩
        case measure => simp [intOf]; omega
      · simp only [Nat.reducePow, Nat.mul_one, Nat.reduceAdd, Nat.pow_zero] at *
        have hmask := HM.out
        clear HM
        by_cases c1 : 2147483647 < x + y * 2097152
        · have e := (O1.out (.inl c1)).symm.trans HO.out
          simp only [Prod.mk.injEq] at e
          obtain ⟨rfl, rfl, rfl⟩ := e
          have c1' : (2147483647 : Int) < (x : Int) + (y : Int) * 2097152 := by omega
          clear O1 O2 O3 O4 HO
          go_wp2
          go_ret3
          exact ⟨rfl, rfl⟩
        have c1' : ¬ (2147483647 : Int) < (x : Int) + (y : Int) * 2097152 := by omega
        have hno : ¬ (2147483647 < x + y * 2097152 ∨ ((3 : Nat) = 4 ∧ 128 ≤ v)) := by omega
        by_cases c4 : v = 0
        · have e := (O2.out hno ⟨by omega, c4⟩).symm.trans HO.out
          simp only [Prod.mk.injEq] at e
          obtain ⟨rfl, rfl, rfl⟩ := e
          subst c4
          have hy0 : y = 0 := by have := HYV.out; omega
          subst hy0
          have hx' : decide ((2147483647 : Int) < (x : Int)) = false := by simp; omega
          have hm0 : bits .and .u8 (0 : Int) 127 = 0 := u8_mask7 0 (by decide)
          clear O1 O2 O3 O4 HO hno c1 c1' HYV hmask
          go_wp2
          go_ret3
          exact ⟨rfl, rfl⟩
        have c4' : ((v : Int) == 0) = false := by simp; omega
        by_cases c5 : v < 128
        · have e := (O3.out hno (by omega) c5).symm.trans HO.out
          simp only [Prod.mk.injEq] at e
          obtain ⟨rfl, rfl, rfl⟩ := e
          clear O1 O2 O3 O4 HO hno
          go_wp2
          go_ret3
          exact ⟨by simp [errV], rfl⟩
        have e := (O4.out hno (by omega) c5).symm.trans HO.out
        have HE := Lib.hid e
        clear O1 O2 O3 O4 HO hno e
        go_wp2
        go_round
        case rel => exact ⟨4, x + y * 2097152, by omega, by omega, by go_num, by go_num, by omega, HE.out⟩
        case measure => simp [intOf]; omega
      · simp only [Nat.reducePow, Nat.mul_one, Nat.reduceAdd, Nat.pow_zero] at *
        have hmask := HM.out
        clear HM
        by_cases c1 : 2147483647 < x + y * 268435456
        · have e := (O1.out (.inl c1)).symm.trans HO.out
          simp only [Prod.mk.injEq] at e
          obtain ⟨rfl, rfl, rfl⟩ := e
          have c1' : (2147483647 : Int) < (x : Int) + (y : Int) * 268435456 := by omega
          clear O1 O2 O3 O4 HO
          go_wp2
          go_ret3
          exact ⟨rfl, rfl⟩
        have c1' : ¬ (2147483647 : Int) < (x : Int) + (y : Int) * 268435456 := by omega
        by_cases c2 : 128 ≤ v
        · have e := (O1.out (.inr ⟨trivial, c2⟩)).symm.trans HO.out
          simp only [Prod.mk.injEq] at e
          obtain ⟨rfl, rfl, rfl⟩ := e
          clear O1 O2 O3 O4 HO
          go_wp2
          go_ret3
          exact ⟨rfl, rfl⟩
        have hno : ¬ (2147483647 < x + y * 268435456 ∨ (True ∧ 128 ≤ v)) := by omega
        by_cases c4 : v = 0
        · have e := (O2.out hno ⟨by omega, c4⟩).symm.trans HO.out
          simp only [Prod.mk.injEq] at e
          obtain ⟨rfl, rfl, rfl⟩ := e
          subst c4
          have hy0 : y = 0 := by have := HYV.out; omega
          subst hy0
          have hx' : decide ((2147483647 : Int) < (x : Int)) = false := by simp; omega
          have hm0 : bits .and .u8 (0 : Int) 127 = 0 := u8_mask7 0 (by decide)
          clear O1 O2 O3 O4 HO hno c1 c1' HYV hmask
          go_wp2
          go_ret3
          exact ⟨rfl, rfl⟩
        have c4' : ((v : Int) == 0) = false := by simp; omega
        by_cases c5 : v < 128
        · have e := (O3.out hno (by omega) c5).symm.trans HO.out
          simp only [Prod.mk.injEq] at e
          obtain ⟨rfl, rfl, rfl⟩ := e
          clear O1 O2 O3 O4 HO hno
          go_wp2
          go_ret3
          exact ⟨by simp [errV], rfl⟩
        omega
    · have hkr : k = r.length := by omega
      subst hkr
      have e := HX.out
      rw [List.drop_length] at e
      simp only [getFrom, Prod.mk.injEq] at e
      obtain ⟨rfl, rfl, rfl⟩ := e
      clear HX HC
      go_wp2
      go_ret3
      exact ⟨rfl, rfl⟩
end Go.Proofs.Ytkbbkamnmdeagaa
