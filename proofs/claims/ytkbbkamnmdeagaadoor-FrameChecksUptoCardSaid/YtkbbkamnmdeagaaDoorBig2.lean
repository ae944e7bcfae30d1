/-
  The reference's Big, Word and Read, and wire.Read. No condition but the bounds that each names.
-/
import Derived.Test.YtkbbkamnmdeagaaDoorBig
namespace Go.Proofs.YtkbbkamnmdeagaaDoor
open Go.RowKit

theorem rbig_ok (n s : Int) (h1 : 1 ≤ s) (h4 : s ≤ 4) (h0 : 0 ≤ n) (h : n ≤ (most s.toNat : Nat)) (w : World) :
    Calls Tryd.prog 13 #[.int .i64 n, .int .i64 s] w fun e w' => ∃ v, e = .returned (.tuple #[v, .int .i64 0]) ∧ w'.ownsRow w.heap.size 5 1 v s.toNat (bs (beBytes s.toNat n.toNat)) ∧ Below w.heap.size w w' := by
  obtain ⟨t, rfl⟩ := Int.eq_ofNat_of_zero_le (show 0 ≤ s by omega)
  obtain ⟨m, rfl⟩ := Int.eq_ofNat_of_zero_le h0
  simp only [Int.toNat_natCast] at h ⊢
  have hml := (most_lt t (by omega)).2
  have hn2 : decide (most t < m) = false := by simp; omega
  have ht1 : decide ((t : Int) < 1) = false := by simp; omega
  have ht4 : decide ((4 : Int) < (t : Int)) = false := by simp; omega
  have hm31 : (m : Int) ≤ 2147483647 := by omega
  clear h hml
  go_enter Tryd.func13, Tryd.ntmps13
  go_wp2_with (go_at_call 67; refine (rholds_any _ (by omega) (by omega) _).mono ?_; rintro e w' ⟨rfl, rfl⟩)
  go_loopw [7, 8] (fun b i wr => ∃ k : Nat, k ≤ t ∧ i = .int .i64 ((t : Int) - 1 - k) ∧ wr.ownsRow w.heap.size 5 1 b k (bs ((beBytes t m).take k)) ∧ Below w.heap.size w wr) (fun _ i _ => (intOf i + 1).toNat)
  case atStart => exact ⟨0, Nat.zero_le _, by simp, World.ownsRow_nil _ _ _ _, Below.refl _ _⟩
  case round =>
    obtain ⟨k, hk, rfl, hown, hb⟩ := hrel
    by_cases hlt : k < t
    · have hge : ¬ (t : Int) - 1 - k < 0 := by omega
      have hsz := hb.size
      obtain ⟨P, hP⟩ : ∃ P : Int, P = 2 ^ (8 * ((t : Int) - 1 - k)).toNat := ⟨_, rfl⟩
      have hp : 1 ≤ P := by rw [hP]; exact ipow_pos _
      have hq : 0 ≤ (m : Int) / P := Int.ediv_nonneg (by omega) (by omega)
      have hq2 : (m : Int) / P ≤ 2147483647 := by
        have h9 := Int.ediv_le_self P (show (0 : Int) ≤ (m : Int) by omega)
        omega
      have HC : ∀ W : World, Calls Tryd.prog 68 #[.int .i64 (8 * ((t : Int) - 1 - k))] W fun e w' => e = .returned (.int .i64 P) ∧ W = w' := by
        intro W
        rw [hP]
        exact rpow_any _ (by omega) (by omega) W
      have hv : UInt8.ofNat (m / 256 ^ (t - 1 - k)) = UInt8.ofNat ((m : Int) / P % 256).toNat := by
        have e1 : P = ((256 ^ (t - 1 - k) : Nat) : Int) := by
          rw [hP, show (8 * ((t : Int) - 1 - k)).toNat = 8 * (t - 1 - k) by omega, Int.pow_mul]
          simp
        rw [e1]
        apply UInt8.toNat_inj.1
        simp only [UInt8.toNat_ofNat', ← Int.natCast_ediv]
        omega
      have HH := Lib.hid HC
      have HV := Lib.hid hv
      clear HC hP hv
      go_wp2_with (first
        | (go_at_call 68; refine (HH.out _).mono ?_; rintro e w' ⟨rfl, rfl⟩)
        | (at_builtin; refine wpList_push rfl _ _ rfl w.heap.size _ _ _ rfl hown rfl rfl (by omega) hsz ?_; intro v' w' hown' hb'))
      go_roundw
      case rel =>
        refine ⟨k + 1, by omega, by go_num, ?_, hb.trans hb'⟩
        rw [beBytes_take t m k hlt, bs_append, HV.out]
        have e2 : bs [UInt8.ofNat ((m : Int) / P % 256).toNat] = [.int .u8 ((m : Int) / P % 256)] := by
          simp only [bs, List.map_cons, List.map_nil, UInt8.toNat_ofNat']
          congr 2
          omega
        rw [e2]
        exact hown'
      case measure => simp [intOf]; omega
    · have hkt : k = t := by omega
      subst hkt
      go_wp2
      go_ret2
      exact ⟨_, rfl, by rw [List.take_of_length_le (by rw [beBytes_length]; omega)] at hown; exact hown, hb⟩

theorem rbig_bad (n s : Int) (hb : ¬ (1 ≤ s ∧ s ≤ 4 ∧ 0 ≤ n ∧ n ≤ (most s.toNat : Nat))) (w : World) :
    Calls Tryd.prog 13 #[.int .i64 n, .int .i64 s] w fun e w' => e = .returned (.tuple #[.slice none 0 0, .int .i64 1]) ∧ w = w' := by
  by_cases h1 : s < 1
  · clear hb
    go_enter Tryd.func13, Tryd.ntmps13
    go_wp2
    go_ret2
    exact ⟨rfl, rfl⟩
  by_cases h4 : 4 < s
  · clear hb
    go_enter Tryd.func13, Tryd.ntmps13
    go_wp2
    go_ret2
    exact ⟨rfl, rfl⟩
  by_cases h0 : n < 0
  · clear hb
    go_enter Tryd.func13, Tryd.ntmps13
    go_wp2
    go_ret2
    exact ⟨rfl, rfl⟩
  have h : ((most s.toNat : Nat) : Int) < n := by omega
  clear hb
  go_enter Tryd.func13, Tryd.ntmps13
  go_wp2_with (go_at_call 67; refine (rholds_any _ (by omega) (by omega) _).mono ?_; rintro e w' ⟨rfl, rfl⟩)
  go_ret2
  exact ⟨rfl, rfl⟩

theorem pow256_le {k : Nat} (h : k ≤ 7) : (256 : Nat) ^ k ≤ 72057594037927936 := by
  have h1 : (256 : Nat) ^ k ≤ 256 ^ 7 := Nat.pow_le_pow_right (by omega) h
  omega

/-- The reference's Word: the number of at most seven bytes. -/
theorem rword_any (l : List UInt8) (hl : l.length ≤ 7) (A : Option Addr) (n c : Nat) (hn : n = l.length) (B : Nat) (w : World) (hr : Reads w B 1 A l.length (bs l)) :
    Calls Tryd.prog 42 #[.slice A n c] w fun e w' => e = .returned (.int .i64 (beNat l : Nat)) ∧ w = w' := by
  subst hn
  go_enter Tryd.func42, Tryd.ntmps42
  go_wp2
  go_loop [3, 4] (fun x i => ∃ k : Nat, k ≤ l.length ∧ i = .int .i64 k ∧ x = .int .i64 (beNat (l.take k) : Nat)) (fun _ i => l.length - (intOf i).toNat)
  case atStart => exact ⟨0, Nat.zero_le _, rfl, rfl⟩
  case round =>
    obtain ⟨k, hk, rfl, rfl⟩ := hrel
    by_cases hlt : k < l.length
    · obtain ⟨b, off, rfl, _, hc⟩ := reads_byte hr hlt
      have hv := beNat_take_succ l k hlt
      have h1 := beNat_take_lt l k
      have h2 := pow256_le (show k ≤ 7 by omega)
      have h3 : (beNat (l.take k) : Int) * 256 ≤ 9223372036854775552 := by
        have h4 : beNat (l.take k) ≤ 256 ^ 6 := by
          have := beNat_take_lt l k
          have h5 : (256 : Nat) ^ k ≤ 256 ^ 6 := Nat.pow_le_pow_right (by omega) (by omega)
          omega
        omega
      have hx := l[k].toNat_lt
      have HV := Lib.hid hv
      clear hv h1 h2 hr
      generalize l[k].toNat = y at *
      generalize hg : beNat (l.take k) = x at *
      clear hg
      go_wp2
      go_round
      case rel => exact ⟨k + 1, by omega, by go_num, by rw [HV.out]; go_num⟩
      case measure => simp [intOf]; omega
    · have hkt : k = l.length := by omega
      subst hkt
      go_wp2
      go_ret
      exact ⟨rfl, rfl⟩

/-- What the reference's Read, and wire.Read, tell: the number, the fault. -/
def readE (l : List UInt8) (s : Int) : Nat := if s < 1 ∨ 4 < s then 1 else if (l.length : Int) < s then 8 else if 2147483647 < beNat (l.take s.toNat) then 10 else 0
def readN (l : List UInt8) (s : Int) : Nat := if readE l s = 0 then beNat (l.take s.toNat) else 0

theorem rread_any (l : List UInt8) (s : Int) (A : Option Addr) (n c : Nat) (hn : n = l.length) (hcap : l.length ≤ c) (hm : l.length ≤ maxLen) (B : Nat) (w : World) (hr : Reads w B 1 A l.length (bs l)) :
    Calls Tryd.prog 16 #[.slice A n c, .int .i64 s] w fun e w' => e = .returned (.tuple #[.int .i64 (readN l s : Nat), .int .i64 (readE l s : Nat)]) ∧ w = w' := by
  subst hn
  unfold maxLen at hm
  by_cases h1 : s < 1
  · have e1 : readE l s = 1 := by simp [readE, h1]
    have e2 : readN l s = 0 := by simp [readN, e1]
    rw [e1, e2]
    clear e1 e2 hr
    go_enter Tryd.func16, Tryd.ntmps16
    go_wp2
    go_ret2
    exact ⟨rfl, rfl⟩
  by_cases h4 : 4 < s
  · have e1 : readE l s = 1 := by simp [readE, h4]
    have e2 : readN l s = 0 := by simp [readN, e1]
    rw [e1, e2]
    clear e1 e2 hr
    go_enter Tryd.func16, Tryd.ntmps16
    go_wp2
    go_ret2
    exact ⟨rfl, rfl⟩
  obtain ⟨t, rfl⟩ := Int.eq_ofNat_of_zero_le (show 0 ≤ s by omega)
  by_cases h8 : l.length < t
  · have e1 : readE l t = 8 := by simp [readE, h1, h4, h8]
    have e2 : readN l t = 0 := by simp [readN, e1]
    rw [e1, e2]
    clear e1 e2 hr
    go_enter Tryd.func16, Tryd.ntmps16
    go_wp2
    go_ret2
    exact ⟨rfl, rfl⟩
  have hr2 : Reads w B 1 A (l.take t).length (bs (l.take t)) := by
    have := hr.take (k := t) (by omega)
    rw [bs_take] at this
    rwa [List.length_take, Nat.min_eq_left (by omega)]
  have hl2 : (l.take t).length ≤ 7 := by rw [List.length_take]; omega
  have ht : t = (l.take t).length := by rw [List.length_take]; omega
  have HT := Lib.hid ht
  have htc : t ≤ c := by omega
  have hlt := beNat_lt (l.take t)
  have hp := pow256_le hl2
  have hle : (beNat (l.take t) : Int) ≤ 72057594037927936 := by omega
  clear ht hr hlt hp
  by_cases h10 : 2147483647 < beNat (l.take t)
  · have e1 : readE l t = 10 := by simp [readE, h1, h4, h8, h10]
    have e2 : readN l t = 0 := by simp [readN, e1]
    rw [e1, e2]
    clear e1 e2
    go_enter Tryd.func16, Tryd.ntmps16
    go_wp2_with (go_at_call 42; refine (rword_any (l.take t) hl2 _ _ _ HT.out _ _ hr2).mono ?_; rintro e w' ⟨rfl, rfl⟩)
    go_ret2
    exact ⟨rfl, rfl⟩
  · have e1 : readE l t = 0 := by simp [readE, h1, h4, h8, h10]
    have e2 : readN l t = beNat (l.take t) := by simp [readN, e1]
    rw [e1, e2]
    clear e1 e2
    go_enter Tryd.func16, Tryd.ntmps16
    go_wp2_with (go_at_call 42; refine (rword_any (l.take t) hl2 _ _ _ HT.out _ _ hr2).mono ?_; rintro e w' ⟨rfl, rfl⟩)
    go_ret2
    exact ⟨rfl, rfl⟩

end Go.Proofs.YtkbbkamnmdeagaaDoor
