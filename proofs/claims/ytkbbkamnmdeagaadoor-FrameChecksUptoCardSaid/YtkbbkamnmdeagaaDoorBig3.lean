/-
  wire.Read by its contract. No condition.
-/
import Derived.Test.YtkbbkamnmdeagaaDoorBig2
namespace Go.Proofs.YtkbbkamnmdeagaaDoor
open Go.RowKit

theorem i64_or_byte (x : Nat) (y : Nat) (hx : x ≤ 281474976710656) (hy : y < 256) : bits .or .i64 ((x : Int) * 256) (y : Int) = (x : Int) * 256 + y := by
  have e : ((x : Int) * 256) = ((x * 256 : Nat) : Int) := by simp
  rw [e]
  have h1 : (BitVec.ofInt 64 ((x * 256 : Nat) : Int)).toNat = x * 256 := by
    rw [BitVec.ofInt_natCast, BitVec.toNat_ofNat]; exact Nat.mod_eq_of_lt (by omega)
  have h2 : (BitVec.ofInt 64 ((y : Nat) : Int)).toNat = y := by
    rw [BitVec.ofInt_natCast, BitVec.toNat_ofNat]; exact Nat.mod_eq_of_lt (by omega)
  show IntKind.i64.wrap ((BitVec.ofInt 64 ((x * 256 : Nat) : Int) ||| BitVec.ofInt 64 ((y : Nat) : Int)).toNat : Int) = _
  rw [BitVec.toNat_or, h1, h2]
  have h3 : x * 256 ||| y = x * 256 + y := by
    have := Nat.shiftLeft_add_eq_or_of_lt (i := 8) (b := y) (by omega) x
    rw [show x * 256 = x <<< 8 from by rw [Nat.shiftLeft_eq]]
    exact this.symm
  rw [h3, IntKind.wrap_i64]
  omega

theorem wread_any (l : List UInt8) (s : Int) (A : Option Addr) (n c : Nat) (hn : n = l.length) (hcap : l.length ≤ c) (hm : l.length ≤ maxLen) (B : Nat) (w : World) (hr : Reads w B 1 A l.length (bs l)) :
    Calls Tryd.prog 17 #[.slice A n c, .int .i64 s] w fun e w' => e = .returned (.tuple #[.int .i64 (readN l s : Nat), errV (readE l s)]) ∧ w = w' := by
  subst hn
  unfold maxLen at hm
  by_cases h1 : s < 1
  · have e1 : readE l s = 1 := by simp [readE, h1]
    have e2 : readN l s = 0 := by simp [readN, e1]
    rw [e1, e2, errV_pos (by decide)]
    clear e1 e2 hr
    go_enter Tryd.func17, Tryd.ntmps17
    go_wp2
    go_ret2
    exact ⟨rfl, rfl⟩
  by_cases h4 : 4 < s
  · have e1 : readE l s = 1 := by simp [readE, h4]
    have e2 : readN l s = 0 := by simp [readN, e1]
    rw [e1, e2, errV_pos (by decide)]
    clear e1 e2 hr
    go_enter Tryd.func17, Tryd.ntmps17
    go_wp2
    go_ret2
    exact ⟨rfl, rfl⟩
  obtain ⟨t, rfl⟩ := Int.eq_ofNat_of_zero_le (show 0 ≤ s by omega)
  by_cases h8 : l.length < t
  · have e1 : readE l t = 8 := by simp [readE, h1, h4, h8]
    have e2 : readN l t = 0 := by simp [readN, e1]
    rw [e1, e2, errV_pos (by decide)]
    clear e1 e2 hr
    go_enter Tryd.func17, Tryd.ntmps17
    go_wp2
    go_ret2
    exact ⟨rfl, rfl⟩
  have htc : t ≤ c := by omega
  have HO : Hid (if 2147483647 < beNat (l.take t) then (readE l t = 10 ∧ readN l t = 0) else (readE l t = 0 ∧ readN l t = beNat (l.take t))) := by
    show if _ then _ else _
    split <;> rename_i h10
    · have e1 : readE l t = 10 := by simp [readE, h1, h4, h8, h10]
      exact ⟨e1, by simp [readN, e1]⟩
    · have e1 : readE l t = 0 := by simp [readE, h1, h4, h8, h10]
      exact ⟨e1, by simp [readN, e1]⟩
  generalize readE l t = re at *
  generalize readN l t = rn at *
  have ht1 : decide ((t : Int) < 1) = false := by simp; omega
  have ht4 : decide ((4 : Int) < (t : Int)) = false := by simp; omega
  have hlt : decide (l.length < t) = false := by simp; omega
  go_enter Tryd.func17, Tryd.ntmps17
  go_wp2
  go_loop [6, 8, 27] (fun x _ i => ∃ k : Nat, k ≤ t ∧ i = .int .i64 k ∧ x = .int .i64 (beNat (l.take k) : Nat)) (fun _ _ i => t - (intOf i).toNat)
  case atStart => exact ⟨0, Nat.zero_le _, rfl, rfl⟩
  case round =>
    obtain ⟨k, hk, rfl, rfl⟩ := hrel
    by_cases hlt : k < t
    · obtain ⟨b, off, rfl, _, hc⟩ := reads_byte hr (show k < l.length by omega)
      have hv := beNat_take_succ l k (by omega)
      have h3 : beNat (l.take k) ≤ 281474976710656 := by
        have := beNat_take_lt l k
        have h5 : (256 : Nat) ^ k ≤ 256 ^ 6 := Nat.pow_le_pow_right (by omega) (by omega)
        omega
      have hx := l[k].toNat_lt
      have hor := i64_or_byte _ _ h3 hx
      have HV := Lib.hid hv
      clear hv hr
      generalize l[k].toNat = y at *
      generalize hg : beNat (l.take k) = x at *
      clear hg
      go_wp2
      go_round
      case rel => exact ⟨k + 1, by omega, by go_num, by rw [HV.out]; go_num⟩
      case measure => simp [intOf]; omega
    · have hkt : k = t := by omega
      subst hkt
      have h3 := beNat_take_lt l k
      have h4' : (most k < beNat (l.take k)) ↔ 2147483647 < beNat (l.take k) := by
        unfold most
        rcases (by omega : k = 1 ∨ k = 2 ∨ k = 3 ∨ k = 4) with rfl | rfl | rfl | rfl <;> simp at h3 ⊢ <;> omega
      clear h3 hr
      by_cases h10 : 2147483647 < beNat (l.take k)
      · have hO := HO.out
        rw [if_pos h10] at hO
        obtain ⟨rfl, rfl⟩ := hO
        have hd : decide (most k < beNat (l.take k)) = true := by simpa using h4'.2 h10
        clear h4' h10 HO
        go_wp2_with (go_at_call 69; refine (wholds_any _ (by omega) (by omega) _).mono ?_; rintro e w' ⟨rfl, rfl⟩)
        go_ret2
        exact ⟨rfl, rfl⟩
      · have hO := HO.out
        rw [if_neg h10] at hO
        obtain ⟨rfl, rfl⟩ := hO
        have hd : decide (most k < beNat (l.take k)) = false := by simpa using (fun h => h10 (h4'.1 h))
        clear h4' h10 HO
        go_wp2_with (go_at_call 69; refine (wholds_any _ (by omega) (by omega) _).mono ?_; rintro e w' ⟨rfl, rfl⟩)
        go_ret2
        exact ⟨rfl, rfl⟩
end Go.Proofs.YtkbbkamnmdeagaaDoor
