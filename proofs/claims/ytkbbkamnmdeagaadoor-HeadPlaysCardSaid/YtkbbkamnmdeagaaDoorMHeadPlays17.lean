/-
  The reference's Big, Word and Read, and wire.Read. No condition but the bounds that each names.
  wire.Read by its contract. No condition.
  Bytes to a string; the uniform contracts of Big. No condition.
  The walk of the law CodeWrites: it returns true, and nothing that was in memory turns. Condition: the text and the bytes are no longer than 1048576 each; errors.errorType reads as laid.
  The reference's Get where the first byte is not full. Condition: the length's bound.
-/
import Derived.Test.YtkbbkamnmdeagaaDoorMHeadPlays15
import Derived.Test.YtkbbkamnmdeagaaDoorRefDec
import Derived.Test.YtkbbkamnmdeagaaDoorDec
import Derived.Test.YtkbbkamnmdeagaaDoorMHeadPlays06
namespace Go.Proofs.YtkbbkamnmdeagaaDoor
open Go.RowKit

theorem rbig_ok (n s : Int) (h1 : 1 ≤ s) (h4 : s ≤ 4) (h0 : 0 ≤ n) (h : n ≤ (most s.toNat : Nat)) (w : World) :
    Calls Tryd.prog 13 #[.int .i64 n, .int .i64 s] w fun e w' => ∃ v, e = .returned (.tuple #[v, .int .i64 0]) ∧ w'.ownsRow w.heap.size 5 1 v s.toNat (bs (beBytes s.toNat n.toNat)) ∧ Below w.heap.size w w' := by
  obtain ⟨t, rfl⟩ := Int.eq_ofNat_of_zero_le (show 0 ≤ s by omega)
  obtain ⟨m, rfl⟩ := Int.eq_ofNat_of_zero_le h0
  simp only [Int.toNat_natCast] at h ⊢
  have hml := (most_lt t (by omega)).2
  have hn2 : decide (most t < m) = false := by simp; omega
  have ht1 : decide ((t : Int) < 1) = false := by simp; omega
  have ht4 : decide ((4 : Int) < (t : Int)) = false := by simp; omega
  have hm31 : (m : Int) ≤ 2147483647 := by omega
  clear h hml
  go_enter Tryd.func13, Tryd.ntmps13
  go_wp2_with (go_at_call 67; refine (rholds_any _ (by omega) (by omega) _).mono ?_; rintro e w' ⟨rfl, rfl⟩)
  go_loopw [7, 8] (fun b i wr => ∃ k : Nat, k ≤ t ∧ i = .int .i64 ((t : Int) - 1 - k) ∧ wr.ownsRow w.heap.size 5 1 b k (bs ((beBytes t m).take k)) ∧ Below w.heap.size w wr) (fun _ i _ => (intOf i + 1).toNat)
  case atStart => exact ⟨0, Nat.zero_le _, by simp, World.ownsRow_nil _ _ _ _, Below.refl _ _⟩
  case round =>
    obtain ⟨k, hk, rfl, hown, hb⟩ := hrel
    by_cases hlt : k < t
    · have hge : ¬ (t : Int) - 1 - k < 0 := by omega
      have hsz := hb.size
      obtain ⟨P, hP⟩ : ∃ P : Int, P = 2 ^ (8 * ((t : Int) - 1 - k)).toNat := ⟨_, rfl⟩
      have hp : 1 ≤ P := by rw [hP]; exact ipow_pos _
      have hq : 0 ≤ (m : Int) / P := Int.ediv_nonneg (by omega) (by omega)
      have hq2 : (m : Int) / P ≤ 2147483647 := by
        have h9 := Int.ediv_le_self P (show (0 : Int) ≤ (m : Int) by omega)
        omega
      have HC : ∀ W : World, Calls Tryd.prog 68 #[.int .i64 (8 * ((t : Int) - 1 - k))] W fun e w' => e = .returned (.int .i64 P) ∧ W = w' := by
        intro W
        rw [hP]
        exact rpow_any _ (by omega) (by omega) W
      have hv : UInt8.ofNat (m / 256 ^ (t - 1 - k)) = UInt8.ofNat ((m : Int) / P % 256).toNat := by
        have e1 : P = ((256 ^ (t - 1 - k) : Nat) : Int) := by
          rw [hP, show (8 * ((t : Int) - 1 - k)).toNat = 8 * (t - 1 - k) by omega, Int.pow_mul]
          simp
        rw [e1]
        apply UInt8.toNat_inj.1
        simp only [UInt8.toNat_ofNat', ← Int.natCast_ediv]
        omega
      have HH := Lib.hid HC
      have HV := Lib.hid hv
      clear HC hP hv
      go_wp2_with (first
        | (go_at_call 68; refine (HH.out _).mono ?_; rintro e w' ⟨rfl, rfl⟩)
        | (at_builtin; refine wpList_push rfl _ _ rfl w.heap.size _ _ _ rfl hown rfl rfl (by omega) hsz ?_; intro v' w' hown' hb'))
      go_roundw
      case rel =>
        refine ⟨k + 1, by omega, by go_num, ?_, hb.trans hb'⟩
        rw [beBytes_take t m k hlt, bs_append, HV.out]
        have e2 : bs [UInt8.ofNat ((m : Int) / P % 256).toNat] = [.int .u8 ((m : Int) / P % 256)] := by
          simp only [bs, List.map_cons, List.map_nil, UInt8.toNat_ofNat']
          congr 2
          omega
        rw [e2]
        exact hown'
      case measure => simp [intOf]; omega
    · have hkt : k = t := by omega
      subst hkt
      go_wp2
      go_ret2
      exact ⟨_, rfl, by rw [List.take_of_length_le (by rw [beBytes_length]; omega)] at hown; exact hown, hb⟩

theorem rbig_bad (n s : Int) (hb : ¬ (1 ≤ s ∧ s ≤ 4 ∧ 0 ≤ n ∧ n ≤ (most s.toNat : Nat))) (w : World) :
    Calls Tryd.prog 13 #[.int .i64 n, .int .i64 s] w fun e w' => e = .returned (.tuple #[.slice none 0 0, .int .i64 1]) ∧ w = w' := by
  by_cases h1 : s < 1
  · clear hb
    go_enter Tryd.func13, Tryd.ntmps13
    go_wp2
    go_ret2
    exact ⟨rfl, rfl⟩
  by_cases h4 : 4 < s
  · clear hb
    go_enter Tryd.func13, Tryd.ntmps13
    go_wp2
    go_ret2
    exact ⟨rfl, rfl⟩
  by_cases h0 : n < 0
  · clear hb
    go_enter Tryd.func13, Tryd.ntmps13
    go_wp2
    go_ret2
    exact ⟨rfl, rfl⟩
  have h : ((most s.toNat : Nat) : Int) < n := by omega
  clear hb
  go_enter Tryd.func13, Tryd.ntmps13
  go_wp2_with (go_at_call 67; refine (rholds_any _ (by omega) (by omega) _).mono ?_; rintro e w' ⟨rfl, rfl⟩)
  go_ret2
  exact ⟨rfl, rfl⟩

theorem pow256_le {k : Nat} (h : k ≤ 7) : (256 : Nat) ^ k ≤ 72057594037927936 := by
  have h1 : (256 : Nat) ^ k ≤ 256 ^ 7 := Nat.pow_le_pow_right (by omega) h
  omega

/-- The reference's Word: the number of at most seven bytes. -/
theorem rword_any (l : List UInt8) (hl : l.length ≤ 7) (A : Option Addr) (n c : Nat) (hn : n = l.length) (B : Nat) (w : World) (hr : Reads w B 1 A l.length (bs l)) :
    Calls Tryd.prog 42 #[.slice A n c] w fun e w' => e = .returned (.int .i64 (beNat l : Nat)) ∧ w = w' := by
  subst hn
  go_enter Tryd.func42, Tryd.ntmps42
  go_wp2
  go_loop [3, 4] (fun x i => ∃ k : Nat, k ≤ l.length ∧ i = .int .i64 k ∧ x = .int .i64 (beNat (l.take k) : Nat)) (fun _ i => l.length - (intOf i).toNat)
  case atStart => exact ⟨0, Nat.zero_le _, rfl, rfl⟩
  case round =>
    obtain ⟨k, hk, rfl, rfl⟩ := hrel
    by_cases hlt : k < l.length
    · obtain ⟨b, off, rfl, _, hc⟩ := reads_byte hr hlt
      have hv := beNat_take_succ l k hlt
      have h1 := beNat_take_lt l k
      have h2 := pow256_le (show k ≤ 7 by omega)
      have h3 : (beNat (l.take k) : Int) * 256 ≤ 9223372036854775552 := by
        have h4 : beNat (l.take k) ≤ 256 ^ 6 := by
          have := beNat_take_lt l k
          have h5 : (256 : Nat) ^ k ≤ 256 ^ 6 := Nat.pow_le_pow_right (by omega) (by omega)
          omega
        omega
      have hx := l[k].toNat_lt
      have HV := Lib.hid hv
      clear hv h1 h2 hr
      generalize l[k].toNat = y at *
      generalize hg : beNat (l.take k) = x at *
      clear hg
      go_wp2
      go_round
      case rel => exact ⟨k + 1, by omega, by go_num, by rw [HV.out]; go_num⟩
      case measure => simp [intOf]; omega
    · have hkt : k = l.length := by omega
      subst hkt
      go_wp2
      go_ret
      exact ⟨rfl, rfl⟩

/-- What the reference's Read, and wire.Read, tell: the number, the fault. -/
def readE (l : List UInt8) (s : Int) : Nat := if s < 1 ∨ 4 < s then 1 else if (l.length : Int) < s then 8 else if 2147483647 < beNat (l.take s.toNat) then 10 else 0
def readN (l : List UInt8) (s : Int) : Nat := if readE l s = 0 then beNat (l.take s.toNat) else 0

theorem rread_any (l : List UInt8) (s : Int) (A : Option Addr) (n c : Nat) (hn : n = l.length) (hcap : l.length ≤ c) (hm : l.length ≤ maxLen) (B : Nat) (w : World) (hr : Reads w B 1 A l.length (bs l)) :
    Calls Tryd.prog 16 #[.slice A n c, .int .i64 s] w fun e w' => e = .returned (.tuple #[.int .i64 (readN l s : Nat), .int .i64 (readE l s : Nat)]) ∧ w = w' := by
  subst hn
  unfold maxLen at hm
  by_cases h1 : s < 1
  · have e1 : readE l s = 1 := by simp [readE, h1]
    have e2 : readN l s = 0 := by simp [readN, e1]
    rw [e1, e2]
    clear e1 e2 hr
    go_enter Tryd.func16, Tryd.ntmps16
    go_wp2
    go_ret2
    exact ⟨rfl, rfl⟩
  by_cases h4 : 4 < s
  · have e1 : readE l s = 1 := by simp [readE, h4]
    have e2 : readN l s = 0 := by simp [readN, e1]
    rw [e1, e2]
    clear e1 e2 hr
    go_enter Tryd.func16, Tryd.ntmps16
    go_wp2
    go_ret2
    exact ⟨rfl, rfl⟩
  obtain ⟨t, rfl⟩ := Int.eq_ofNat_of_zero_le (show 0 ≤ s by omega)
  by_cases h8 : l.length < t
  · have e1 : readE l t = 8 := by simp [readE, h1, h4, h8]
    have e2 : readN l t = 0 := by simp [readN, e1]
    rw [e1, e2]
    clear e1 e2 hr
    go_enter Tryd.func16, Tryd.ntmps16
    go_wp2
    go_ret2
    exact ⟨rfl, rfl⟩
  have hr2 : Reads w B 1 A (l.take t).length (bs (l.take t)) := by
    have := hr.take (k := t) (by omega)
    rw [bs_take] at this
    rwa [List.length_take, Nat.min_eq_left (by omega)]
  have hl2 : (l.take t).length ≤ 7 := by rw [List.length_take]; omega
  have ht : t = (l.take t).length := by rw [List.length_take]; omega
  have HT := Lib.hid ht
  have htc : t ≤ c := by omega
  have hlt := beNat_lt (l.take t)
  have hp := pow256_le hl2
  have hle : (beNat (l.take t) : Int) ≤ 72057594037927936 := by omega
  clear ht hr hlt hp
  by_cases h10 : 2147483647 < beNat (l.take t)
  · have e1 : readE l t = 10 := by simp [readE, h1, h4, h8, h10]
    have e2 : readN l t = 0 := by simp [readN, e1]
    rw [e1, e2]
    clear e1 e2
    go_enter Tryd.func16, Tryd.ntmps16
    go_wp2_with (go_at_call 42; refine (rword_any (l.take t) hl2 _ _ _ HT.out _ _ hr2).mono ?_; rintro e w' ⟨rfl, rfl⟩)
    go_ret2
    exact ⟨rfl, rfl⟩
  · have e1 : readE l t = 0 := by simp [readE, h1, h4, h8, h10]
    have e2 : readN l t = beNat (l.take t) := by simp [readN, e1]
    rw [e1, e2]
    clear e1 e2
    go_enter Tryd.func16, Tryd.ntmps16
    go_wp2_with (go_at_call 42; refine (rword_any (l.take t) hl2 _ _ _ HT.out _ _ hr2).mono ?_; rintro e w' ⟨rfl, rfl⟩)
    go_ret2
    exact ⟨rfl, rfl⟩

end Go.Proofs.YtkbbkamnmdeagaaDoor
namespace Go.Proofs.YtkbbkamnmdeagaaDoor
open Go.RowKit

theorem i64_or_byte (x : Nat) (y : Nat) (hx : x ≤ 281474976710656) (hy : y < 256) : bits .or .i64 ((x : Int) * 256) (y : Int) = (x : Int) * 256 + y := by
  have e : ((x : Int) * 256) = ((x * 256 : Nat) : Int) := by simp
  rw [e]
  have h1 : (BitVec.ofInt 64 ((x * 256 : Nat) : Int)).toNat = x * 256 := by
    rw [BitVec.ofInt_natCast, BitVec.toNat_ofNat]; exact Nat.mod_eq_of_lt (by omega)
  have h2 : (BitVec.ofInt 64 ((y : Nat) : Int)).toNat = y := by
    rw [BitVec.ofInt_natCast, BitVec.toNat_ofNat]; exact Nat.mod_eq_of_lt (by omega)
  show IntKind.i64.wrap ((BitVec.ofInt 64 ((x * 256 : Nat) : Int) ||| BitVec.ofInt 64 ((y : Nat) : Int)).toNat : Int) = _
  rw [BitVec.toNat_or, h1, h2]
  have h3 : x * 256 ||| y = x * 256 + y := by
    have := Nat.shiftLeft_add_eq_or_of_lt (i := 8) (b := y) (by omega) x
    rw [show x * 256 = x <<< 8 from by rw [Nat.shiftLeft_eq]]
    exact this.symm
  rw [h3, IntKind.wrap_i64]
  omega

theorem wread_any (l : List UInt8) (s : Int) (A : Option Addr) (n c : Nat) (hn : n = l.length) (hcap : l.length ≤ c) (hm : l.length ≤ maxLen) (B : Nat) (w : World) (hr : Reads w B 1 A l.length (bs l)) :
    Calls Tryd.prog 17 #[.slice A n c, .int .i64 s] w fun e w' => e = .returned (.tuple #[.int .i64 (readN l s : Nat), errV (readE l s)]) ∧ w = w' := by
  subst hn
  unfold maxLen at hm
  by_cases h1 : s < 1
  · have e1 : readE l s = 1 := by simp [readE, h1]
    have e2 : readN l s = 0 := by simp [readN, e1]
    rw [e1, e2, errV_pos (by decide)]
    clear e1 e2 hr
    go_enter Tryd.func17, Tryd.ntmps17
    go_wp2
    go_ret2
    exact ⟨rfl, rfl⟩
  by_cases h4 : 4 < s
  · have e1 : readE l s = 1 := by simp [readE, h4]
    have e2 : readN l s = 0 := by simp [readN, e1]
    rw [e1, e2, errV_pos (by decide)]
    clear e1 e2 hr
    go_enter Tryd.func17, Tryd.ntmps17
    go_wp2
    go_ret2
    exact ⟨rfl, rfl⟩
  obtain ⟨t, rfl⟩ := Int.eq_ofNat_of_zero_le (show 0 ≤ s by omega)
  by_cases h8 : l.length < t
  · have e1 : readE l t = 8 := by simp [readE, h1, h4, h8]
    have e2 : readN l t = 0 := by simp [readN, e1]
    rw [e1, e2, errV_pos (by decide)]
    clear e1 e2 hr
    go_enter Tryd.func17, Tryd.ntmps17
    go_wp2
    go_ret2
    exact ⟨rfl, rfl⟩
  have htc : t ≤ c := by omega
  have HO : Hid (if 2147483647 < beNat (l.take t) then (readE l t = 10 ∧ readN l t = 0) else (readE l t = 0 ∧ readN l t = beNat (l.take t))) := by
    show if _ then _ else _
    split <;> rename_i h10
    · have e1 : readE l t = 10 := by simp [readE, h1, h4, h8, h10]
      exact ⟨e1, by simp [readN, e1]⟩
    · have e1 : readE l t = 0 := by simp [readE, h1, h4, h8, h10]
      exact ⟨e1, by simp [readN, e1]⟩
  generalize readE l t = re at *
  generalize readN l t = rn at *
  have ht1 : decide ((t : Int) < 1) = false := by simp; omega
  have ht4 : decide ((4 : Int) < (t : Int)) = false := by simp; omega
  have hlt : decide (l.length < t) = false := by simp; omega
  go_enter Tryd.func17, Tryd.ntmps17
  go_wp2
  go_loop [6, 8, 27] (fun x _ i => ∃ k : Nat, k ≤ t ∧ i = .int .i64 k ∧ x = .int .i64 (beNat (l.take k) : Nat)) (fun _ _ i => t - (intOf i).toNat)
  case atStart => exact ⟨0, Nat.zero_le _, rfl, rfl⟩
  case round =>
    obtain ⟨k, hk, rfl, rfl⟩ := hrel
    by_cases hlt : k < t
    · obtain ⟨b, off, rfl, _, hc⟩ := reads_byte hr (show k < l.length by omega)
      have hv := beNat_take_succ l k (by omega)
      have h3 : beNat (l.take k) ≤ 281474976710656 := by
        have := beNat_take_lt l k
        have h5 : (256 : Nat) ^ k ≤ 256 ^ 6 := Nat.pow_le_pow_right (by omega) (by omega)
        omega
      have hx := l[k].toNat_lt
      have hor := i64_or_byte _ _ h3 hx
      have HV := Lib.hid hv
      clear hv hr
      generalize l[k].toNat = y at *
      generalize hg : beNat (l.take k) = x at *
      clear hg
      go_wp2
      go_round
      case rel => exact ⟨k + 1, by omega, by go_num, by rw [HV.out]; go_num⟩
      case measure => simp [intOf]; omega
    · have hkt : k = t := by omega
      subst hkt
      have h3 := beNat_take_lt l k
      have h4' : (most k < beNat (l.take k)) ↔ 2147483647 < beNat (l.take k) := by
        unfold most
        rcases (by omega : k = 1 ∨ k = 2 ∨ k = 3 ∨ k = 4) with rfl | rfl | rfl | rfl <;> simp at h3 ⊢ <;> omega
      clear h3 hr
      by_cases h10 : 2147483647 < beNat (l.take k)
      · have hO := HO.out
        rw [if_pos h10] at hO
        obtain ⟨rfl, rfl⟩ := hO
        have hd : decide (most k < beNat (l.take k)) = true := by simpa using h4'.2 h10
        clear h4' h10 HO
        go_wp2_with (go_at_call 69; refine (wholds_any _ (by omega) (by omega) _).mono ?_; rintro e w' ⟨rfl, rfl⟩)
        go_ret2
        exact ⟨rfl, rfl⟩
      · have hO := HO.out
        rw [if_neg h10] at hO
        obtain ⟨rfl, rfl⟩ := hO
        have hd : decide (most k < beNat (l.take k)) = false := by simpa using (fun h => h10 (h4'.1 h))
        clear h4' h10 HO
        go_wp2_with (go_at_call 69; refine (wholds_any _ (by omega) (by omega) _).mono ?_; rintro e w' ⟨rfl, rfl⟩)
        go_ret2
        exact ⟨rfl, rfl⟩
end Go.Proofs.YtkbbkamnmdeagaaDoor
namespace Go.Proofs.YtkbbkamnmdeagaaDoor
open Go.RowKit

def bigOk (n s : Int) : Prop := 1 ≤ s ∧ s ≤ 4 ∧ 0 ≤ n ∧ n ≤ (most s.toNat : Nat)
instance (n s : Int) : Decidable (bigOk n s) := by unfold bigOk; infer_instance
def bigE (n s : Int) : Nat := if bigOk n s then 0 else 1
def bigL (n s : Int) : List UInt8 := if bigOk n s then beBytes s.toNat n.toNat else []
theorem wbig_any (n s : Int) (w : World) :
    Calls Tryd.prog 14 #[.int .i64 n, .int .i64 s] w fun e w' => ∃ A c, e = .returned (.tuple #[.slice A (bigL n s).length c, errV (bigE n s)]) ∧ Gave w w' (bigL n s) A c := by
  by_cases h : bigOk n s
  · have e1 : bigE n s = 0 := by simp [bigE, h]
    have e2 : bigL n s = beBytes s.toNat n.toNat := by simp [bigL, h]
    rw [e1, e2]
    refine (wbig_ok n s h.1 h.2.1 h.2.2.1 h.2.2.2 w).mono ?_
    rintro e w' ⟨v, he, hown, hb⟩
    obtain ⟨A, c, rfl, hg⟩ := gave_of_own (l := beBytes s.toNat n.toNat) (by rw [beBytes_length]; exact hown) hb
    exact ⟨A, c, he, hg⟩
  · have e1 : bigE n s = 1 := by simp [bigE, h]
    have e2 : bigL n s = [] := by simp [bigL, h]
    rw [e1, e2]
    refine (wbig_bad n s h w).mono ?_
    rintro e w' ⟨he, rfl⟩
    exact ⟨none, 0, he, gave_nil w⟩
theorem rbig_any (n s : Int) (w : World) :
    Calls Tryd.prog 13 #[.int .i64 n, .int .i64 s] w fun e w' => ∃ A c, e = .returned (.tuple #[.slice A (bigL n s).length c, .int .i64 (bigE n s : Nat)]) ∧ Gave w w' (bigL n s) A c := by
  by_cases h : bigOk n s
  · have e1 : bigE n s = 0 := by simp [bigE, h]
    have e2 : bigL n s = beBytes s.toNat n.toNat := by simp [bigL, h]
    rw [e1, e2]
    refine (rbig_ok n s h.1 h.2.1 h.2.2.1 h.2.2.2 w).mono ?_
    rintro e w' ⟨v, he, hown, hb⟩
    obtain ⟨A, c, rfl, hg⟩ := gave_of_own (l := beBytes s.toNat n.toNat) (by rw [beBytes_length]; exact hown) hb
    exact ⟨A, c, he, hg⟩
  · have e1 : bigE n s = 1 := by simp [bigE, h]
    have e2 : bigL n s = [] := by simp [bigL, h]
    rw [e1, e2]
    refine (rbig_bad n s h w).mono ?_
    rintro e w' ⟨he, rfl⟩
    exact ⟨none, 0, he, gave_nil w⟩
theorem same_true (a : Nat) (w : World) (hE : ErrType w) :
    Calls Tryd.prog 15 #[errV a, .int .i64 (a : Nat)] w fun r w' => r = .returned (.bool true) ∧ Below w.heap.size w w' :=
  (same_err a (a : Nat) w hE).mono fun _ _ h => ⟨by simpa using h.1, h.2⟩
end Go.Proofs.YtkbbkamnmdeagaaDoor
namespace Go.Proofs.YtkbbkamnmdeagaaDoor
open Go.RowKit

theorem encode_gave2 (l : List UInt8) (hl : l.length ≤ 68719476736) (w : World) :
    Calls Tryd.prog 22 #[.string ⟨l.toArray⟩] w fun e w' => ∃ A c, e = .returned (.slice A (enc l).length c) ∧ Gave w w' (enc l) A c := by
  refine (encode_any l hl w).mono ?_
  rintro e w' ⟨v, he, hown, hb⟩
  obtain ⟨A, c, rfl, hg⟩ := gave_of_own hown hb
  exact ⟨A, c, he, hg⟩
theorem rcode_gave (l : List UInt8) (hl : l.length ≤ 68719476736) (w : World) :
    Calls Tryd.prog 23 #[.string ⟨l.toArray⟩] w fun e w' => ∃ A c, e = .returned (.slice A (enc l).length c) ∧ Gave w w' (enc l) A c := by
  refine (rcode_any l hl w).mono ?_
  rintro e w' ⟨v, he, hown, hb⟩
  obtain ⟨A, c, rfl, hg⟩ := gave_of_own hown hb
  exact ⟨A, c, he, hg⟩
theorem decode_two (l t : List UInt8) (ok : Bool) (a : Nat) (h1 : (decode l).getD [] = t) (h2 : (decode l).isSome = ok) (ha : a = if ok then 0 else 2) (hl : l.length ≤ 1099511627776) (A : Option Addr) (n c : Nat) (hn : n = l.length) (w : World) (hr : Reads w w.heap.size 1 A l.length (bs l)) :
    Calls Tryd.prog 26 #[.slice A n c] w fun e w' => e = .returned (.tuple #[.string ⟨t.toArray⟩, errV a]) ∧ Below w.heap.size w w' := by
  refine (decode_any l hl A n c hn w hr).mono ?_
  rintro e w' ⟨he, hb⟩
  have e1 : decS l = t := by simp [decS, h1]
  have e2 : decE l = a := by simp [decE, h2, ha]
  rw [e1, e2] at he
  exact ⟨he, hb⟩
theorem rdecode_two (l t : List UInt8) (ok : Bool) (h1 : (decode l).getD [] = t) (h2 : (decode l).isSome = ok) (hl : l.length ≤ 68719476736) (A : Option Addr) (n c : Nat) (hn : n = l.length) (w : World) (hr : Reads w w.heap.size 1 A l.length (bs l)) :
    Calls Tryd.prog 25 #[.slice A n c] w fun e w' => e = .returned (.tuple #[.string ⟨t.toArray⟩, .bool ok]) ∧ Below w.heap.size w w' := by
  refine (rdecode_any l hl A n c hn w hr).mono ?_
  rintro e w' ⟨he, hb⟩
  rw [← h1, ← h2]
  exact ⟨he, hb⟩

set_option maxRecDepth 100000 in
set_option maxHeartbeats 4000000 in
theorem codeWrites_walk (s l : List UInt8) (A : Option Addr) (c : Nat) (w : World) (hE : ErrType w) (hs : s.length ≤ 1048576) (hl : l.length ≤ 1048576) (hr : Reads w w.heap.size 1 A l.length (bs l)) :
    Calls Tryd.prog 6 #[.string ⟨s.toArray⟩, .slice A l.length c] w fun e w' => e = .returned (.bool true) ∧ Below w.heap.size w w' := by
  obtain ⟨t, ok, h1, h2⟩ : ∃ t ok, (decode l).getD [] = t ∧ (decode l).isSome = ok := ⟨_, _, rfl, rfl⟩
  have H1 := Lib.hid h1
  have H2 := Lib.hid h2
  clear h1 h2
  cases ok with
  | true =>
    go_enter Tryd.func6, Tryd.ntmps6
    go_wp2_with fail
    refine (encode_gave2 s (by omega) w).mono ?_
    rintro e w1 ⟨A1, c1, rfl, hc1, hr1, hb1⟩
    go_wp2_with fail
    refine (rcode_gave s (by omega) w1).mono ?_
    rintro e w2 ⟨A2, c2, rfl, hc2, hr2, hb2⟩
    go_wp2_with fail
    refine (cbits_any s (by omega) w2).mono ?_
    rintro e w3 ⟨rfl, hb3⟩
    have hb12 := hb1.trans (hb2.mono hb1.size)
    have hb13 := hb12.trans (hb3.mono hb12.size)
    go_wp2_with fail
    refine (rdecode_two l t true H1.out H2.out (by omega) A _ c rfl w3 ((hr.below hb13).more hb13.size)).mono ?_
    rintro e w4 ⟨rfl, hb4⟩
    have hb14 := hb13.trans (hb4.mono hb13.size)
    go_wp2_with fail
    refine (decode_two l t true 0 H1.out H2.out rfl (by omega) A _ c rfl w4 ((hr.below hb14).more hb14.size)).mono ?_
    rintro e w5 ⟨rfl, hb5⟩
    have hb15 := hb14.trans (hb5.mono hb14.size)
    go_wp2_with fail
    refine (same_true 0 w5 (hE.next hb15)).mono ?_
    rintro e w6 ⟨rfl, hb6⟩
    have hb16 := hb15.trans (hb6.mono hb15.size)
    have hs2 := hb2.size
    have hs3 := hb3.size
    have hs4 := hb4.size
    have hs5 := hb5.size
    have hb26 := (((hb3.trans (hb4.mono hs3)).trans (hb5.mono (Nat.le_trans hs3 hs4))).trans (hb6.mono (Nat.le_trans hs3 (Nat.le_trans hs4 hs5))))
    have hb36 := hb2.trans (hb26.mono hs2)
    have k1 := run_str (hr1.below hb36) c1
    have k2 := run_str (hr2.below hb26) c2
    clear hr1 hr2 hb1 hb2 hb3 hb4 hb5 hb6 hb12 hb13 hb14 hb15 hb26 hb36 hs2 hs3 hs4 hs5
    have hb16s := hb16.size
    have HB := Lib.hid hb16
    go_wp2_with fail
    refine (rBits_any s (by omega) w6).mono ?_
    rintro e w7 ⟨rfl, hb7⟩
    go_wp2
    go_ret
    exact ⟨rfl, HB.out.trans (hb7.mono hb16s)⟩
  | false =>
    go_enter Tryd.func6, Tryd.ntmps6
    go_wp2_with fail
    refine (encode_gave2 s (by omega) w).mono ?_
    rintro e w1 ⟨A1, c1, rfl, hc1, hr1, hb1⟩
    go_wp2_with fail
    refine (rcode_gave s (by omega) w1).mono ?_
    rintro e w2 ⟨A2, c2, rfl, hc2, hr2, hb2⟩
    go_wp2_with fail
    refine (cbits_any s (by omega) w2).mono ?_
    rintro e w3 ⟨rfl, hb3⟩
    have hb12 := hb1.trans (hb2.mono hb1.size)
    have hb13 := hb12.trans (hb3.mono hb12.size)
    go_wp2_with fail
    refine (rdecode_two l t false H1.out H2.out (by omega) A _ c rfl w3 ((hr.below hb13).more hb13.size)).mono ?_
    rintro e w4 ⟨rfl, hb4⟩
    have hb14 := hb13.trans (hb4.mono hb13.size)
    go_wp2_with fail
    refine (decode_two l t false 2 H1.out H2.out rfl (by omega) A _ c rfl w4 ((hr.below hb14).more hb14.size)).mono ?_
    rintro e w5 ⟨rfl, hb5⟩
    have hb15 := hb14.trans (hb5.mono hb14.size)
    go_wp2_with fail
    refine (same_true 2 w5 (hE.next hb15)).mono ?_
    rintro e w6 ⟨rfl, hb6⟩
    have hb16 := hb15.trans (hb6.mono hb15.size)
    have hs2 := hb2.size
    have hs3 := hb3.size
    have hs4 := hb4.size
    have hs5 := hb5.size
    have hb26 := (((hb3.trans (hb4.mono hs3)).trans (hb5.mono (Nat.le_trans hs3 hs4))).trans (hb6.mono (Nat.le_trans hs3 (Nat.le_trans hs4 hs5))))
    have hb36 := hb2.trans (hb26.mono hs2)
    have k1 := run_str (hr1.below hb36) c1
    have k2 := run_str (hr2.below hb26) c2
    clear hr1 hr2 hb1 hb2 hb3 hb4 hb5 hb6 hb12 hb13 hb14 hb15 hb26 hb36 hs2 hs3 hs4 hs5
    have hb16s := hb16.size
    have HB := Lib.hid hb16
    go_wp2_with fail
    refine (rBits_any s (by omega) w6).mono ?_
    rintro e w7 ⟨rfl, hb7⟩
    go_wp2
    go_ret
    exact ⟨rfl, HB.out.trans (hb7.mono hb16s)⟩
end Go.Proofs.YtkbbkamnmdeagaaDoor
namespace Go.Proofs.YtkbbkamnmdeagaaDoor
open Go.RowKit

/-- The reference's Get. -/
theorem rget_one (r : List UInt8) (c0 : UInt8) (t : Nat) (ht : 1 ≤ t) (ht8 : t ≤ 8) (A : Option Addr) (n c : Nat) (hn : n = r.length + 1) (B : Nat) (w : World) (hr : Reads w B 1 A (r.length + 1) (bs (c0 :: r)))
    (hlt : c0.toNat % 2 ^ t < 2 ^ t - 1) :
    Calls Tryd.prog 20 #[.slice A n c, .int .i64 t] w fun e w' => e = .returned (.tuple #[.int .i64 (c0.toNat % 2 ^ t : Nat), .int .i64 1, .int .i64 0]) ∧ w = w' := by
  subst hn
  obtain ⟨b, off, rfl, _, hc⟩ := reads_byte (l := c0 :: r) hr (k := 0) (by simp)
  have h0 : w.cell? ⟨b, off, none⟩ = some (.int .u8 (c0.toNat : Int)) := hc
  have hb : c0.toNat < 256 := c0.toNat_lt
  have hp := pow2_bounds ht ht8
  have HC : ∀ W : World, Calls Tryd.prog 68 #[.int .i64 (t : Int)] W fun e w' => e = .returned (.int .i64 ((2 ^ t : Nat) : Int)) ∧ W = w' := by
    intro W
    have h := rpow_any (t : Int) (by omega) (by omega) W
    rw [Int.toNat_natCast] at h
    simpa using h
  have HH := Lib.hid HC
  have HX := Lib.hid (Int.natCast_emod c0.toNat (2 ^ t))
  clear hc hr HC
  generalize c0.toNat % 2 ^ t = x at *
  generalize c0.toNat = y at *
  generalize 2 ^ t = p at *
  have hx := HX.out.symm
  have hlt' : (x : Int) < (p : Int) - 1 := by omega
  clear hlt HX
  go_enter Tryd.func20, Tryd.ntmps20
  go_wp2_with (go_at_call 68; refine (HH.out _).mono ?_; rintro e w' ⟨rfl, rfl⟩)
  go_ret3
  refine ⟨?_, rfl⟩
  show Ending.returned (.tuple #[.int .i64 ((y : Int) % (p : Int)), .int .i64 1, .int .i64 0]) = _
  rw [hx]
end Go.Proofs.YtkbbkamnmdeagaaDoor
