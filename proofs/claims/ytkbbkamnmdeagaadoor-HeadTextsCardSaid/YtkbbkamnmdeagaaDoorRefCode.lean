/-
  The reference's Often, bits, Bits by their contracts. Condition: the bound on the text's length.
-/
import Derived.Test.YtkbbkamnmdeagaaDoorDec
import Derived.Test.YtkbbkamnmdeagaaDoorBig
namespace Go.Proofs.YtkbbkamnmdeagaaDoor
open Go.RowKit

set_option maxRecDepth 100000 in
theorem roften_any (c : UInt8) (w : World) :
    Calls Tryd.prog 74 #[.int .u8 (c.toNat : Int)] w fun e w' => e = .returned (.int .i64 (oidx c)) ∧ w = w' := by
  go_enter Tryd.func74, Tryd.ntmps74
  go_wp2
  go_loop [3] (fun i => ∃ k : Nat, k ≤ 32 ∧ i = .int .i64 k ∧ Hid (∀ j, j < k → often[j]? ≠ some c)) (fun i => 32 - (intOf i).toNat)
  case atStart => exact ⟨0, by omega, rfl, fun j hj => by omega⟩
  case round =>
    obtain ⟨k, hk, rfl, HN⟩ := hrel
    by_cases hlt : k < 32
    · have ha := often_arr k hlt
      have hat : often[k]? = some (often.getD k 0) := by
        simp only [List.getD]
        rw [List.getElem?_eq_getElem (by exact hlt)]
        rfl
      by_cases he : often.getD k 0 = c
      · have hi : oidx c = k := oidx_often (by rw [hat, he])
        have hq : ((((ByteArray.mk often.toArray)[k]'(hlt)).toNat : Int) == (c.toNat : Int)) = true := by rw [← ha, he]; simp
        have HI := Lib.hid hi
        unfold often at hq
        clear ha hat he hi
        go_wp2
        go_ret
        exact ⟨by rw [HI.out]; rfl, rfl⟩
      · have hq : ((((ByteArray.mk often.toArray)[k]'(hlt)).toNat : Int) == (c.toNat : Int)) = false := by
          rw [← ha]
          simp only [beq_eq_false_iff_ne, ne_eq]
          intro h
          apply he
          apply UInt8.toNat_inj.1
          omega
        have HM : Hid (∀ j, j < k + 1 → often[j]? ≠ some c) := by
          intro j hj
          rcases Nat.lt_succ_iff_lt_or_eq.1 hj with h | rfl
          · exact HN.out j h
          · rw [hat]
            intro h
            injection h with h
            exact he h
        unfold often at hq
        clear ha hat he HN
        go_wp2
        go_round
        case rel => exact ⟨k + 1, by omega, by go_num, HM⟩
        case measure => simp [intOf]; omega
    · have hk32 : k = 32 := by omega
      subst hk32
      have hi : oidx c = -1 := by
        have hb := oidx_bounds c
        rcases Int.lt_or_le (oidx c) 0 with h | h
        · omega
        · obtain ⟨z, hz⟩ := Int.eq_ofNat_of_zero_le h
          exact absurd (often_at hz) (HN.out z (by omega))
      have HI := Lib.hid hi
      clear hi HN
      go_wp2
      go_ret
      exact ⟨by rw [HI.out]; rfl, rfl⟩
theorem roften_k (c : UInt8) (z : Int) (h : oidx c = z) (w : World) :
    Calls Tryd.prog 74 #[.int .u8 (c.toNat : Int)] w fun e w' => e = .returned (.int .i64 z) ∧ w = w' := by
  rw [← h]
  exact roften_any c w

/-- Bits, a byte each. -/
def bb (l : List Bool) : List UInt8 := l.map fun b => UInt8.ofNat b.toNat
theorem bb_append (a b : List Bool) : bb (a ++ b) = bb a ++ bb b := by simp [bb]
theorem bb_length (a : List Bool) : (bb a).length = a.length := by simp [bb]
theorem bs_bb_one (b : Bool) : bs (bb [b]) = [.int .u8 (b.toNat : Int)] := by cases b <;> rfl

/-- The bit of a number by the reference's power. -/
theorem rpow_bit (x i : Nat) (hx : x < 512) (hi : i ≤ 8) : ∃ P : Int, 1 ≤ P ∧ (0 : Int) ≤ (x : Int) / P ∧ (x : Int) / P ≤ 512 ∧ (x : Int) / P % 2 = ((x.testBit i).toNat : Int) ∧
    ∀ W : World, Calls Tryd.prog 68 #[.int .i64 (i : Int)] W fun e w' => e = .returned (.int .i64 P) ∧ W = w' := by
  refine ⟨((2 ^ i : Nat) : Int), ?_, ?_, ?_, ?_, fun W => ?_⟩
  · have := Nat.two_pow_pos i
    generalize 2 ^ i = p at *
    omega
  · exact Int.ediv_nonneg (by omega) (Int.natCast_nonneg _)
  · have h1 := Int.ediv_le_self ((2 ^ i : Nat) : Int) (show (0 : Int) ≤ (x : Int) by omega)
    omega
  · rw [← Int.natCast_ediv, Nat.toNat_testBit]
    omega
  · have h := rpow_any (i : Int) (by omega) (by omega) W
    rw [Int.toNat_natCast] at h
    simpa using h

set_option maxRecDepth 100000 in
set_option maxHeartbeats 4000000 in
theorem rbits_any (l : List UInt8) (hl : l.length ≤ 68719476736) (w : World) :
    Calls Tryd.prog 73 #[.string ⟨l.toArray⟩] w fun e w' => ∃ v, e = .returned v ∧ w'.ownsRow w.heap.size 5 1 v (encBits l).length (bs (bb (encBits l))) ∧ Below w.heap.size w w' := by
  go_enter Tryd.func73, Tryd.ntmps73
  go_wp2
  go_loopw [3, 4] (fun v i wr => ∃ k : Nat, k ≤ l.length ∧ i = .int .i64 k ∧ wr.ownsRow w.heap.size 5 1 v (encBits (l.take k)).length (bs (bb (encBits (l.take k)))) ∧ Below w.heap.size w wr) (fun _ i _ => l.length - (intOf i).toNat)
  case atStart => exact ⟨0, Nat.zero_le _, rfl, World.ownsRow_nil _ _ _ _, Below.refl _ _⟩
  case round =>
    obtain ⟨k, hk, rfl, hown, hb⟩ := hrel
    by_cases hlt : k < l.length
    · have hsz := hb.size
      have hlen : (encBits (l.take k)).length ≤ 1099511627776 := by
        have h1 := encBits_le (l.take k)
        have h2 : (l.take k).length ≤ l.length := List.length_take_le' ..
        omega
      have HT := Lib.hid (encBits_take l k hlt)
      have hyb : l[k].toNat < 256 := l[k].toNat_lt
      by_cases h0 : 0 ≤ oidx l[k]
      · obtain ⟨z, hz, hz32, hcw, _⟩ := cw_often h0
        have HZ := Lib.hid hz
        have HC := Lib.hid hcw
        clear hz hcw h0
        go_wp2_with fail
        refine (roften_k l[k] z HZ.out wr).mono ?_
        rintro e w' ⟨rfl, rfl⟩
        go_wp2_with (at_builtin; refine wpList_push rfl _ _ rfl w.heap.size _ _ _ rfl hown rfl rfl (by omega) hsz ?_; intro v1 w1 hown1 hb1)
        have hb01 := hb.trans hb1
        have e1 : bs (bb (encBits (l.take k))) ++ [Value.int .u8 0] = bs (bb (encBits (l.take k) ++ [false])) := by rw [bb_append, bs_append, bs_bb_one]; rfl
        rw [e1] at hown1
        clear e1 hown hb hb1 hsz
        go_loopw [3, 9] (fun v j wr => ∃ (m : Nat) (pre : List Bool), m ≤ 5 ∧ j = .int .i64 ((m : Int) - 1) ∧ Hid (bitsOf 5 z = pre ++ bitsOf m z) ∧ pre.length + m = 5 ∧ wr.ownsRow w.heap.size 5 1 v ((encBits (l.take k)).length + 1 + pre.length) (bs (bb (encBits (l.take k) ++ [false] ++ pre))) ∧ Below w.heap.size w wr) (fun _ j _ => (intOf j + 1).toNat)
        case atStart => exact ⟨5, [], Nat.le_refl _, by go_num, rfl, by simp, by simpa using hown1, hb01⟩
        case round =>
          obtain ⟨m, pre, hmm, rfl, HP, hpl, hown2, hb2⟩ := hrel
          clear hown1 hb01
          rcases m with _ | i
          · have e := HP.out
            rw [show ∀ x, bitsOf 0 x = [] from fun _ => rfl, List.append_nil] at e
            have HE := Lib.hid e
            clear e HP
            have hf : (encBits (l.take (k + 1))).length = (encBits (l.take k)).length + 1 + pre.length := by
              rw [HT.out, HC.out, List.length_append, List.length_cons, HE.out]
              omega
            have HF := Lib.hid hf
            clear hf
            go_wp2
            go_roundw
            case rel =>
              refine ⟨k + 1, by omega, by go_num, ?_, hb2⟩
              rw [HF.out, HT.out, HC.out, HE.out, List.append_cons]
              exact hown2
            case measure => simp [intOf]; omega
          · have ei : (((i + 1 : Nat) : Int) - 1) = (i : Int) := by omega
            rw [ei]
            have e := HP.out
            rw [show bitsOf (i + 1) z = z.testBit i :: bitsOf i z from rfl, List.append_cons] at e
            have HE := Lib.hid e
            clear e HP ei
            have hi8 : i ≤ 8 := by omega
            obtain ⟨Pw, hp1, hp0, hp2, hpb, HPC⟩ := rpow_bit z i (by omega) hi8
            have HPH := Lib.hid HPC
            have hsz2 := hb2.size
            have hbb2 : (z.testBit i).toNat ≤ 1 := by cases z.testBit i <;> decide
            have HPB := Lib.hid hpb
            clear HPC hpb
            generalize z.testBit i = bt at *
            have hpb := HPB.out
            go_wp2_with (first
              | (go_at_call 68; refine (HPH.out _).mono ?_; rintro e w' ⟨rfl, rfl⟩)
              | (at_builtin; refine wpList_push rfl _ _ rfl w.heap.size _ _ _ rfl hown2 rfl rfl (by omega) hsz2 ?_; intro v3 w3 hown3 hb3))
            go_roundw
            case rel =>
              refine ⟨i, pre ++ [bt], by omega, by go_num, HE.out, by simp; omega, ?_, hb2.trans hb3⟩
              rw [← List.append_assoc, bb_append, bs_append, List.length_append, bs_bb_one]
              first | exact hown3 | (rw [HPB.out] at hown3; exact hown3)
            case measure => simp [intOf]
      · have hcw := cw_rare h0
        have hm1 : oidx l[k] = -1 := by have := (oidx_bounds l[k]).1; omega
        have HZ := Lib.hid hm1
        have HC := Lib.hid hcw
        have hcon := fun W => roften_k l[k] (-1) HZ.out W
        clear hm1 hcw h0 HZ
        have hyy0 : ((ByteArray.mk l.toArray)[k]'(hlt)).toNat = l[k].toNat := rfl
        generalize hy0 : l[k].toNat = y at *
        have HCON := Lib.hid hcon
        have HY0 := Lib.hid hy0
        have hyy : (((ByteArray.mk l.toArray)[k]'(hlt)).toNat : Int) = (y : Int) := by rw [hyy0]
        clear hcon hy0 hyy0
        go_wp2_with fail
        refine (HCON.out wr).mono ?_
        rintro e w' ⟨rfl, rfl⟩
        go_wp2_with (at_builtin; refine wpList_push rfl _ _ rfl w.heap.size _ _ _ rfl hown rfl rfl (by omega) hsz ?_; intro v1 w1 hown1 hb1)
        have hb01 := hb.trans hb1
        have e1 : bs (bb (encBits (l.take k))) ++ [Value.int .u8 1] = bs (bb (encBits (l.take k) ++ [true])) := by rw [bb_append, bs_append, bs_bb_one]; rfl
        rw [e1] at hown1
        clear e1 hown hb hb1 hsz
        go_loopw [3, 9] (fun v j wr => ∃ (m : Nat) (pre : List Bool), m ≤ 8 ∧ j = .int .i64 ((m : Int) - 1) ∧ Hid (bitsOf 8 y = pre ++ bitsOf m y) ∧ pre.length + m = 8 ∧ wr.ownsRow w.heap.size 5 1 v ((encBits (l.take k)).length + 1 + pre.length) (bs (bb (encBits (l.take k) ++ [true] ++ pre))) ∧ Below w.heap.size w wr) (fun _ j _ => (intOf j + 1).toNat)
        case atStart => exact ⟨8, [], Nat.le_refl _, by go_num, rfl, by simp, by simpa using hown1, hb01⟩
        case round =>
          obtain ⟨m, pre, hmm, rfl, HP, hpl, hown2, hb2⟩ := hrel
          clear hown1 hb01
          rcases m with _ | i
          · have e := HP.out
            rw [show ∀ x, bitsOf 0 x = [] from fun _ => rfl, List.append_nil] at e
            have HE := Lib.hid e
            clear e HP
            have hf : (encBits (l.take (k + 1))).length = (encBits (l.take k)).length + 1 + pre.length := by
              rw [HT.out, HC.out, List.length_append, List.length_cons, HE.out]
              omega
            have HF := Lib.hid hf
            clear hf
            go_wp2
            go_roundw
            case rel =>
              refine ⟨k + 1, by omega, by go_num, ?_, hb2⟩
              rw [HF.out, HT.out, HC.out, HE.out, List.append_cons]
              exact hown2
            case measure => simp [intOf]; omega
          · have ei : (((i + 1 : Nat) : Int) - 1) = (i : Int) := by omega
            rw [ei]
            have e := HP.out
            rw [show bitsOf (i + 1) y = y.testBit i :: bitsOf i y from rfl, List.append_cons] at e
            have HE := Lib.hid e
            clear e HP ei
            have hi8 : i ≤ 8 := by omega
            obtain ⟨Pw, hp1, hp0, hp2, hpb, HPC⟩ := rpow_bit y i (by omega) hi8
            have HPH := Lib.hid HPC
            have hsz2 := hb2.size
            have hbb2 : (y.testBit i).toNat ≤ 1 := by cases y.testBit i <;> decide
            have HPB := Lib.hid hpb
            clear HPC hpb
            generalize y.testBit i = bt at *
            have hpb := HPB.out
            go_wp2_with (first
              | (go_at_call 68; refine (HPH.out _).mono ?_; rintro e w' ⟨rfl, rfl⟩)
              | (at_builtin; refine wpList_push rfl _ _ rfl w.heap.size _ _ _ rfl hown2 rfl rfl (by omega) hsz2 ?_; intro v3 w3 hown3 hb3))
            go_roundw
            case rel =>
              refine ⟨i, pre ++ [bt], by omega, by go_num, HE.out, by simp; omega, ?_, hb2.trans hb3⟩
              rw [← List.append_assoc, bb_append, bs_append, List.length_append, bs_bb_one]
              first | exact hown3 | (rw [HPB.out] at hown3; exact hown3)
            case measure => simp [intOf]
    · have hkl : k = l.length := by omega
      subst hkl
      rw [List.take_length] at hown
      go_wp2
      go_ret
      exact ⟨_, rfl, hown, hb⟩

theorem rBits_any (l : List UInt8) (hl : l.length ≤ 68719476736) (w : World) :
    Calls Tryd.prog 27 #[.string ⟨l.toArray⟩] w fun e w' => e = .returned (.int .i64 ((encBits l).length : Nat)) ∧ Below w.heap.size w w' := by
  go_enter Tryd.func27, Tryd.ntmps27
  go_wp2_with fail
  refine (rbits_any l hl w).mono ?_
  rintro e w' ⟨v, rfl, hown, hb⟩
  obtain ⟨A, c, rfl, _, _⟩ := isBytes_of_own (l := bb (encBits l)) (by rw [bb_length]; exact hown)
  rw [bb_length]
  clear hown
  go_wp2
  go_ret
  exact ⟨rfl, hb⟩
end Go.Proofs.YtkbbkamnmdeagaaDoor
