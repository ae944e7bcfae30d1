/-
  wire.Put by one contract. No condition.
-/
import Derived.Test.YtkbbkamnmdeagaaGetA
namespace Go.Proofs.Ytkbbkamnmdeagaa
open Go.RowKit

theorem putN_pos {n t first : Nat} (h : ¬ n < 2 ^ t - 1) : putN n t first = UInt8.ofNat (first + (2 ^ t - 1)) :: cont (n - (2 ^ t - 1)) := by rw [putN, if_neg h]
theorem putN_one {n t first : Nat} (h : n < 2 ^ t - 1) : putN n t first = [UInt8.ofNat (first + n)] := by rw [putN, if_pos h]
theorem bs_single (c : UInt8) (z : Int) (h : (c.toNat : Int) = z) : bs [c] = [.int .u8 z] := by simp [bs, h]
theorem wput_one (n f t : Nat) (ht : 1 ≤ t) (ht8 : t ≤ 8) (hf : f ≤ 255) (hf0 : f % 2 ^ t = 0) (hlt : n < 2 ^ t - 1) (w : World) :
    Calls Try.prog 42 #[.int .i64 n, .int .i64 t, .int .i64 f] w fun e w' => ∃ v, e = .returned (.tuple #[v, .nilIface]) ∧ w'.ownsRow w.heap.size 5 1 v (putN n t f).length (bs (putN n t f)) ∧ Below w.heap.size w w' := by
  have hp := pow2_bounds ht ht8
  rw [putN_one hlt]
  have HS := Lib.hid (wrap64_pow t ht8)
  have HMK := Lib.hid (i64_mask f t (by omega) (by omega))
  have hq : f = f / 2 ^ t * 2 ^ t := by
    have := Nat.div_add_mod f (2 ^ t)
    rw [hf0, Nat.mul_comm] at this
    omega
  have hsum : f + n ≤ 255 := by
    have h1 : f / 2 ^ t * 2 ^ t + 2 ^ t ≤ 256 := by
      rcases (by omega : t = 1 ∨ t = 2 ∨ t = 3 ∨ t = 4 ∨ t = 5 ∨ t = 6 ∨ t = 7 ∨ t = 8) with rfl | rfl | rfl | rfl | rfl | rfl | rfl | rfl <;> simp only [Nat.reducePow] at * <;> omega
    omega
  have HOR := Lib.hid (i64_or_low (f / 2 ^ t) n t (by omega) (by omega) (by omega))
  rw [hf0] at HMK
  rw [← hq] at HOR
  clear hq hf0
  generalize 2 ^ t = p at *
  have h1 : (n : Int) < (p : Int) - 1 := by omega
  have hs := HS.out
  have hmk := HMK.out
  have hor := HOR.out
  clear HS HMK HOR hlt
  go_enter Try.func42, Try.ntmps42
  go_wp2
  go_ret2
  refine ⟨_, rfl, own_new w _ _ _ 1 ?_ (by simp [bs]) (by decide), (Below.refl _ _).alloc (Nat.le_refl _) _⟩
  rw [bs_single (UInt8.ofNat (f + n)) ((f : Int) + n) (by simp only [UInt8.toNat_ofNat']; omega)]

set_option maxRecDepth 100000 in
set_option maxHeartbeats 1000000 in
theorem wput_more (n f t : Nat) (ht : 1 ≤ t) (ht8 : t ≤ 8) (hn : n ≤ 2147483647) (hf : f ≤ 255) (hf0 : f % 2 ^ t = 0) (hlt : ¬ n < 2 ^ t - 1) (w : World) :
    Calls Try.prog 42 #[.int .i64 n, .int .i64 t, .int .i64 f] w fun e w' => ∃ v, e = .returned (.tuple #[v, .nilIface]) ∧ w'.ownsRow w.heap.size 5 1 v (putN n t f).length (bs (putN n t f)) ∧ Below w.heap.size w w' := by
  have hp := pow2_bounds ht ht8
  have HL := Lib.hid (putN_pos (first := f) hlt)
  generalize putN n t f = L at *
  have HS := Lib.hid (wrap64_pow t ht8)
  have HMK := Lib.hid (i64_mask f t (by omega) (by omega))
  have hq : f = f / 2 ^ t * 2 ^ t := by
    have := Nat.div_add_mod f (2 ^ t)
    rw [hf0, Nat.mul_comm] at this
    omega
  have hsum : f + (2 ^ t - 1) ≤ 255 := by
    have h1 : f / 2 ^ t * 2 ^ t + 2 ^ t ≤ 256 := by
      rcases (by omega : t = 1 ∨ t = 2 ∨ t = 3 ∨ t = 4 ∨ t = 5 ∨ t = 6 ∨ t = 7 ∨ t = 8) with rfl | rfl | rfl | rfl | rfl | rfl | rfl | rfl <;> simp only [Nat.reducePow] at * <;> omega
    omega
  have hor0 := i64_or_low (f / 2 ^ t) (2 ^ t - 1) t (by omega) (by omega) (by omega)
  rw [← hq, show ((2 ^ t - 1 : Nat) : Int) = ((2 ^ t : Nat) : Int) - 1 by omega] at hor0
  have HOR := Lib.hid hor0
  rw [hf0] at HMK
  clear hq hf0 hor0
  generalize 2 ^ t = p at *
  have h1 : decide ((n : Int) < (p : Int) - 1) = false := by simp; omega
  have ht1 : decide ((t : Int) < 1) = false := by simp; omega
  have ht9 : decide ((8 : Int) < (t : Int)) = false := by simp; omega
  have hn9 : decide ((2147483647 : Int) < (n : Int)) = false := by simp; omega
  have hf9 : decide ((255 : Int) < (f : Int)) = false := by simp; omega
  have hs := HS.out
  have hmk := HMK.out
  have hor := HOR.out
  clear HS HMK HOR
  go_enter Try.func42, Try.ntmps42
  go_wp2
  clear hs hmk hor
  go_loopw [0, 9] (fun x b wr => ∃ (m : Nat) (xs : List UInt8), x = .int .i64 m ∧ 1 ≤ xs.length ∧ xs.length + m ≤ 2147483648 ∧ wr.ownsRow w.heap.size 5 1 b xs.length (bs xs) ∧ Below w.heap.size w wr ∧ Hid (xs ++ cont m = L)) (fun x _ _ => (intOf x).toNat)
  case atStart =>
    refine ⟨n - (p - 1), [UInt8.ofNat (f + (p - 1))], by go_num, by simp, by simp; omega, ?_, (Below.refl _ _).alloc (Nat.le_refl _) _, HL.out.symm⟩
    refine own_new w _ _ _ 1 ?_ (by simp [bs]) (by decide)
    rw [bs_single (UInt8.ofNat (f + (p - 1))) ((f : Int) + ((p : Int) - 1)) (by simp only [UInt8.toNat_ofNat']; omega)]
    first | rfl | (simp; omega)
  case round =>
    obtain ⟨m, xs, rfl, hx1, hxm, hown, hb, HX⟩ := hrel
    clear HL
    have hsz := hb.size
    by_cases hge : m < 128
    · have hm : (m : Int) % 256 = m := by omega
      have e := HX.out
      rw [cont_last hge] at e
      have HE := Lib.hid e
      clear e HX hn9 hf9 ht1 ht9 h1
      go_wp2_with (at_builtin; refine wpList_push rfl _ _ rfl w.heap.size _ _ _ rfl hown rfl rfl (by omega) hsz ?_; intro v' w' hown' hb')
      go_ret2
      refine ⟨_, rfl, ?_, hb.trans hb'⟩
      rw [← HE.out, bs_append, List.length_append]
      rw [bs_single (UInt8.ofNat m) (m : Int) (by simp only [UInt8.toNat_ofNat']; omega)]
      exact hown'
    · have e := HX.out
      rw [cont_more hge] at e
      have HE := Lib.hid e
      clear e HX
      have hor := u8_or_high (m % 256) (by omega)
      rw [show ((m % 256 : Nat) : Int) = (m : Int) % 256 by omega, show m % 256 % 128 = m % 128 by omega] at hor
      go_wp2_with (at_builtin; refine wpList_push rfl _ _ rfl w.heap.size _ _ _ rfl hown rfl rfl (by omega) hsz ?_; intro v' w' hown' hb')
      go_roundw
      case rel =>
        refine ⟨m / 128, xs ++ [UInt8.ofNat (m % 128 + 128)], by go_num, by simp, by simp; omega, ?_, hb.trans hb', ?_⟩
        · rw [bs_append, List.length_append]
          rw [bs_single (UInt8.ofNat (m % 128 + 128)) ((m % 128 + 128 : Nat) : Int) (by simp only [UInt8.toNat_ofNat']; omega)]
          exact hown'
        · show _ = _
          rw [List.append_assoc]
          exact HE.out
      case measure => simp [intOf]; omega

theorem wput_bad (n bits first : Int) (hb : ¬ putOk n bits first) (w : World) :
    Calls Try.prog 42 #[.int .i64 n, .int .i64 bits, .int .i64 first] w fun e w' => e = .returned (.tuple #[.slice none 0 0, .iface 23 (.int .i64 1)]) ∧ w = w' := by
  by_cases h1 : bits < 1
  · clear hb
    go_enter Try.func42, Try.ntmps42
    go_wp2
    go_ret2
    exact ⟨rfl, rfl⟩
  by_cases h8 : 8 < bits
  · clear hb
    go_enter Try.func42, Try.ntmps42
    go_wp2
    go_ret2
    exact ⟨rfl, rfl⟩
  by_cases h0 : n < 0
  · clear hb
    go_enter Try.func42, Try.ntmps42
    go_wp2
    go_ret2
    exact ⟨rfl, rfl⟩
  by_cases hM : 2147483647 < n
  · clear hb
    go_enter Try.func42, Try.ntmps42
    go_wp2
    go_ret2
    exact ⟨rfl, rfl⟩
  by_cases hf : first < 0
  · clear hb
    go_enter Try.func42, Try.ntmps42
    go_wp2
    go_ret2
    exact ⟨rfl, rfl⟩
  by_cases hf5 : 255 < first
  · clear hb
    go_enter Try.func42, Try.ntmps42
    go_wp2
    go_ret2
    exact ⟨rfl, rfl⟩
  have hne : ¬ first % 2 ^ bits.toNat = 0 := fun h => hb ⟨by omega, by omega, by omega, by omega, by omega, by omega, h⟩
  clear hb
  obtain ⟨t, rfl⟩ := Int.eq_ofNat_of_zero_le (show 0 ≤ bits by omega)
  obtain ⟨f, rfl⟩ := Int.eq_ofNat_of_zero_le (show 0 ≤ first by omega)
  rw [Int.toNat_natCast] at hne
  have hne2 : ¬ f % 2 ^ t = 0 := by
    intro h
    apply hne
    have := Int.natCast_emod f (2 ^ t)
    rw [h] at this
    simpa using this.symm
  have hp := pow2_bounds (show 1 ≤ t by omega) (show t ≤ 8 by omega)
  clear hne
  have HS := Lib.hid (wrap64_pow t (by omega))
  have HMK := Lib.hid (i64_mask f t (by omega) (by omega))
  generalize f % 2 ^ t = x at *
  generalize 2 ^ t = p at *
  have hx : ((x : Int) == 0) = false := by simp; omega
  have hs := HS.out
  have hmk := HMK.out
  clear HS HMK hne2
  go_enter Try.func42, Try.ntmps42
  go_wp2
  go_ret2
  exact ⟨rfl, rfl⟩

theorem wput_any (n bits first : Int) (w : World) :
    Calls Try.prog 42 #[.int .i64 n, .int .i64 bits, .int .i64 first] w fun e w' => ∃ v, e = .returned (.tuple #[v, errV (putE n bits first)]) ∧ w'.ownsRow w.heap.size 5 1 v (putL n bits first).length (bs (putL n bits first)) ∧ Below w.heap.size w w' := by
  by_cases h : putOk n bits first
  · have e1 : putE n bits first = 0 := by simp [putE, h]
    have e2 : putL n bits first = putN n.toNat bits.toNat first.toNat := by simp [putL, h]
    rw [e1, e2]
    obtain ⟨h1, h8, h0, hM, hf0, hf5, hmod⟩ := h
    obtain ⟨m, rfl⟩ := Int.eq_ofNat_of_zero_le h0
    obtain ⟨t, rfl⟩ := Int.eq_ofNat_of_zero_le (show 0 ≤ bits by omega)
    obtain ⟨f, rfl⟩ := Int.eq_ofNat_of_zero_le hf0
    simp only [Int.toNat_natCast] at *
    have hmod2 : f % 2 ^ t = 0 := by
      have h2 := Int.natCast_emod f (2 ^ t)
      have h3 : ((f : Int) % ((2 ^ t : Nat) : Int)) = 0 := by simpa using hmod
      omega
    by_cases hlt : m < 2 ^ t - 1
    · exact wput_one m f t (by omega) (by omega) (by omega) hmod2 hlt w
    · exact wput_more m f t (by omega) (by omega) (by omega) (by omega) hmod2 hlt w
  · have e1 : putE n bits first = 1 := by simp [putE, h]
    have e2 : putL n bits first = [] := by simp [putL, h]
    rw [e1, e2]
    refine (wput_bad n bits first h w).mono ?_
    rintro e w' ⟨he, rfl⟩
    exact ⟨_, he, World.ownsRow_nil _ _ _ _, Below.refl _ _⟩
end Go.Proofs.Ytkbbkamnmdeagaa
