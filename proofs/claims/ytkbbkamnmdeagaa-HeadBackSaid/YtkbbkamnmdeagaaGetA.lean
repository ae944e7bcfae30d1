/-
  wire.Get by one contract. Condition: the length's bound.
-/
import Derived.Test.YtkbbkamnmdeagaaGet
namespace Go.Proofs.Ytkbbkamnmdeagaa
open Go.RowKit

theorem wget_any (l : List UInt8) (s : Int) (A : Option Addr) (n c : Nat) (hn : n = l.length) (hcap : l.length ≤ c) (hm : l.length ≤ 140737488355328) (B : Nat) (w : World) (hr : Reads w B 1 A l.length (bs l)) :
    Calls Try.prog 48 #[.slice A n c, .int .i64 s] w fun e w' => e = .returned (.tuple #[.int .i64 (getV l s).1, .int .i64 (getV l s).2.1, errV (getV l s).2.2]) ∧ w = w' := by
  subst hn
  by_cases h1 : s < 1 ∨ 8 < s
  · have e1 : getV l s = (0, 0, 1) := by simp [getV, h1]
    rw [e1]
    clear e1 hr
    rcases h1 with h1 | h1
    all_goals
      go_enter Try.func48, Try.ntmps48
      go_wp2
      go_ret3
      exact ⟨rfl, rfl⟩
  obtain ⟨t, rfl⟩ := Int.eq_ofNat_of_zero_le (show 0 ≤ s by omega)
  match l, hcap, hm, hr with
  | [], hcap, hm, hr =>
    have e1 : getV [] (t : Int) = (0, 0, 8) := by simp [getV, h1]
    rw [e1]
    simp only [List.length_nil]
    clear e1 hr
    go_enter Try.func48, Try.ntmps48
    go_wp2
    go_ret3
    exact ⟨rfl, rfl⟩
  | c0 :: r, hcap, hm, hr =>
    simp only [List.length_cons] at hcap hm hr
    by_cases hlt : c0.toNat % 2 ^ t < 2 ^ t - 1
    · have e1 : getV (c0 :: r) (t : Int) = (c0.toNat % 2 ^ t, 1, 0) := by simp [getV, h1, hlt]
      rw [e1]
      exact wget_one r c0 t (by omega) (by omega) A _ c rfl B w hr hlt
    · have e1 : getV (c0 :: r) (t : Int) = getFrom 0 (c0.toNat % 2 ^ t) r := by simp [getV, h1, hlt]
      rw [e1]
      exact wget_more r c0 t (by omega) (by omega) A _ c rfl hcap (by omega) B w hr hlt _ _ _ rfl
end Go.Proofs.Ytkbbkamnmdeagaa
