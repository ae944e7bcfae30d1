/-
  plain.Told and tollsame.Error: the number of an error is the one told. Condition: errors.errorType holds the handle of the type 'error'.
  Numbers in so many bytes: wire.holds, wire.Big, wire.Read and the reference's holds, pow, Big, Word, Read, by their contracts. No condition but the bounds that each names.
  The reference's Often, bits, Bits by their contracts. Condition: the bound on the text's length.
-/
import Derived.Test.YtkbbkamnmdeagaaDoorErr
import Derived.Test.YtkbbkamnmdeagaaDoorMHeadPlays01
import Derived.Test.YtkbbkamnmdeagaaDoorMHeadPlays03
import Derived.Test.YtkbbkamnmdeagaaDoorDec
namespace Go.Proofs.YtkbbkamnmdeagaaDoor
open Go.RowKit

theorem ErrType.pos {w : World} (h : ErrType w) : 0 < w.heap.size := by
  rcases Nat.eq_zero_or_pos w.heap.size with h0 | h1
  · unfold ErrType at h
    simp [World.cell?, h0] at h
  · exact h1
theorem ErrType.below {w w' : World} {B : Nat} (h : ErrType w) (hb : Below B w w') (hB : 0 < B) : ErrType w' := (hb.cell (p := ⟨0, 0, none⟩) hB).trans h
theorem ErrType.next {w w' : World} (h : ErrType w) (hb : Below w.heap.size w w') : ErrType w' := h.below hb h.pos

set_option maxHeartbeats 1000000 in
set_option maxRecDepth 100000 in
theorem told_nil (w : World) :
    Calls Tryd.prog 70 #[.nilIface] w fun e w' => e = .returned (.int .i64 0) ∧ w = w' := by
  go_enter Tryd.func70, Tryd.ntmps70
  go_wp2
  go_ret
  exact ⟨rfl, rfl⟩

theorem as_errno (k : Int) (t : Addr) (old : Value) (w : World) (hE : ErrType w) (ht0 : w.cell? t = some old) (hf0 : w.frozen? t = false) :
    Calls Tryd.prog 95 #[.iface 113 (.int .i64 k), .iface 143 (.pointer (some t))] w fun e w' => e = .returned (.bool true) ∧ Below t.block w w' ∧ w'.cell? t = some (.int .i64 k) := by
  refine (as_hit k t old w hE ht0 hf0).mono ?_
  rintro e w' ⟨he, hw⟩
  have hlt : t.block < w.heap.size := World.block_lt_of_cell? w t ht0
  refine ⟨he, ?_, ?_⟩
  · rw [hw]
    refine Below.setCell ?_ (Nat.le_refl _) _
    refine Below.alloc (Below.alloc (Below.alloc (Below.alloc (Below.refl _ _) (by omega) _) ?_ _) ?_ _) ?_ _ <;> simp only [World.size_alloc] <;> omega
  · rw [hw]
    refine World.cell?_setCell_same _ _ _ (u := old) ?_
    rw [World.cell?_alloc_lt _ _ t (by simp; omega), World.cell?_alloc_lt _ _ t (by simp; omega), World.cell?_alloc_lt _ _ t (by simp; omega), World.cell?_alloc_lt _ _ t hlt]
    exact ht0

set_option maxHeartbeats 1000000 in
set_option maxRecDepth 100000 in
theorem told_err (k : Int) (w : World) (hE : ErrType w) :
    Calls Tryd.prog 70 #[.iface 113 (.int .i64 k)] w fun e w' => e = .returned (.int .i64 k) ∧ Below w.heap.size w w' := by
  have hE' : ErrType (w.alloc (.cells #[.int .i64 0] 113)) := hE.next ((Below.refl _ _).alloc (Nat.le_refl _) _)
  have ht : (w.alloc (.cells #[.int .i64 0] 113)).cell? ⟨w.heap.size, 0, none⟩ = some (.int .i64 0) := by simp
  have hf : (w.alloc (.cells #[.int .i64 0] 113)).frozen? ⟨w.heap.size, 0, none⟩ = false := by simp
  go_enter Tryd.func70, Tryd.ntmps70
  go_wp2_with (go_at_call 95; refine (as_errno k _ (.int .i64 0) _ hE' ht hf).mono ?_; rintro e w' ⟨rfl, hb, hc⟩)
  go_ret
  exact ⟨rfl, ((Below.refl _ _).alloc (Nat.le_refl _) _).trans hb⟩

theorem same_err (a : Nat) (e : Int) (w : World) (hE : ErrType w) :
    Calls Tryd.prog 15 #[errV a, .int .i64 e] w fun r w' => r = .returned (.bool ((a : Int) == e)) ∧ Below w.heap.size w w' := by
  by_cases h0 : a = 0
  · subst h0
    rw [errV_zero]
    go_enter Tryd.func15, Tryd.ntmps15
    go_wp2_with (go_at_call 70; refine (told_nil _).mono ?_; rintro r w' ⟨rfl, rfl⟩)
    go_ret
    exact ⟨by simp, Below.refl _ _⟩
  · rw [errV_pos h0]
    clear h0
    go_enter Tryd.func15, Tryd.ntmps15
    go_wp2_with (go_at_call 70; refine (told_err _ _ hE).mono ?_; rintro r w' ⟨rfl, hb⟩)
    go_ret
    exact ⟨rfl, hb⟩
end Go.Proofs.YtkbbkamnmdeagaaDoor
namespace Go.Proofs.YtkbbkamnmdeagaaDoor
open Go.RowKit

theorem wholds_any (s : Int) (h1 : 1 ≤ s) (h4 : s ≤ 4) (w : World) :
    Calls Tryd.prog 69 #[.int .i64 s] w fun e w' => e = .returned (.int .i64 (most s.toNat : Nat)) ∧ w = w' := by
  rcases (by omega : s = 1 ∨ s = 2 ∨ s = 3 ∨ s = 4) with rfl | rfl | rfl | rfl
  all_goals
    go_enter Tryd.func69, Tryd.ntmps69
    go_wp2
    go_ret
    exact ⟨by simp [most], rfl⟩

/-- The reference's power of two. -/
theorem rpow_any (n : Int) (h0 : 0 ≤ n) (h : n ≤ 62) (w : World) :
    Calls Tryd.prog 68 #[.int .i64 n] w fun e w' => e = .returned (.int .i64 ((2 : Int) ^ n.toNat)) ∧ w = w' := by
  obtain ⟨m, rfl⟩ := Int.eq_ofNat_of_zero_le h0
  rw [Int.toNat_natCast]
  go_enter Tryd.func68, Tryd.ntmps68
  go_wp2
  go_loop [3, 4] (fun x i => ∃ k : Nat, k ≤ m ∧ i = .int .i64 k ∧ x = .int .i64 ((2 : Int) ^ k)) (fun _ i => m - (intOf i).toNat)
  case atStart => exact ⟨0, Nat.zero_le _, rfl, rfl⟩
  case round =>
    obtain ⟨k, hk, rfl, rfl⟩ := hrel
    have hb : (2 : Int) ^ k * 2 ≤ 4611686018427387904 * 2 ∧ 0 < (2 : Int) ^ k := by
      constructor
      · have h1 : (2 : Int) ^ k ≤ 2 ^ 62 := ipow_le (by omega)
        omega
      · exact Int.pow_pos (by omega)
    obtain ⟨hb1, hb2⟩ := hb
    by_cases hlt : k < m
    · have hb3 : (2 : Int) ^ k * 2 ≤ 9223372036854775807 := by
        have h1 : (2 : Int) ^ k ≤ 2 ^ 61 := ipow_le (by omega)
        omega
      clear hb1
      go_wp2
      go_round
      case rel => exact ⟨k + 1, by omega, by go_num, by rw [Int.pow_succ]⟩
      case measure => simp [intOf]; omega
    · have hkm : k = m := by omega
      subst hkm
      clear hb1 hb2
      go_wp2
      go_ret
      exact ⟨rfl, rfl⟩

theorem rholds_any (s : Int) (h1 : 1 ≤ s) (h4 : s ≤ 4) (w : World) :
    Calls Tryd.prog 67 #[.int .i64 s] w fun e w' => e = .returned (.int .i64 (most s.toNat : Nat)) ∧ w = w' := by
  rcases (by omega : s = 1 ∨ s = 2 ∨ s = 3 ∨ s = 4) with rfl | rfl | rfl | rfl
  all_goals
    go_enter Tryd.func67, Tryd.ntmps67
    go_wp2_with (go_at_call 68; refine (rpow_any _ (by omega) (by omega) _).mono ?_; rintro e w' ⟨rfl, rfl⟩)
    go_ret
    exact ⟨by simp [most], rfl⟩

/-- A row that has just been laid is one of the call's own. -/
theorem wbig_ok1 (n : Int) (h0 : 0 ≤ n) (h : n ≤ (most 1 : Nat)) (w : World) :
    Calls Tryd.prog 14 #[.int .i64 n, .int .i64 1] w fun e w' => ∃ v, e = .returned (.tuple #[v, .nilIface]) ∧ w'.ownsRow w.heap.size 5 1 v 1 (bs (beBytes 1 n.toNat)) ∧ Below w.heap.size w w' := by
  have hm : ∀ W : World, (Instr.makeSlice 22 (.int .i64 1) (.int .i64 1)).run Tryd.prog W = .ok (.slice (some ⟨W.heap.size, 0, none⟩) 1 1) (W.alloc (.cells #[.int .u8 0] 5)) := fun _ => by kernel_rfl
  have hn : ¬ n < 0 := by omega
  have hn2 : ¬ ((most 1 : Nat) : Int) < n := by omega
  go_enter Tryd.func14, Tryd.ntmps14
  go_wp2_with (go_at_call 69; refine (wholds_any _ (by omega) (by omega) _).mono ?_; rintro e w' ⟨rfl, rfl⟩)
  refine wp_loop_rounds 2 ?_
  iterate 2
    rw [rounds_succ]
    go_wp2
  go_ret2
  refine ⟨_, rfl, own_new w _ _ _ 1 ?_ (by simp [bs, beBytes]) (by decide), (Below.refl _ _).alloc (Nat.le_refl _) _⟩
  obtain ⟨m, rfl⟩ := Int.eq_ofNat_of_zero_le h0
  simp [bs, beBytes]

theorem wbig_ok2 (n : Int) (h0 : 0 ≤ n) (h : n ≤ (most 2 : Nat)) (w : World) :
    Calls Tryd.prog 14 #[.int .i64 n, .int .i64 2] w fun e w' => ∃ v, e = .returned (.tuple #[v, .nilIface]) ∧ w'.ownsRow w.heap.size 5 1 v 2 (bs (beBytes 2 n.toNat)) ∧ Below w.heap.size w w' := by
  have hm : ∀ W : World, (Instr.makeSlice 22 (.int .i64 2) (.int .i64 2)).run Tryd.prog W = .ok (.slice (some ⟨W.heap.size, 0, none⟩) 2 2) (W.alloc (.cells #[.int .u8 0, .int .u8 0] 5)) := fun _ => by kernel_rfl
  have hn : ¬ n < 0 := by omega
  have hn2 : ¬ ((most 2 : Nat) : Int) < n := by omega
  go_enter Tryd.func14, Tryd.ntmps14
  go_wp2_with (go_at_call 69; refine (wholds_any _ (by omega) (by omega) _).mono ?_; rintro e w' ⟨rfl, rfl⟩)
  refine wp_loop_rounds 3 ?_
  iterate 3
    rw [rounds_succ]
    go_wp2
  go_ret2
  refine ⟨_, rfl, own_new w _ _ _ 2 ?_ (by simp [bs, beBytes]) (by decide), (Below.refl _ _).alloc (Nat.le_refl _) _⟩
  obtain ⟨m, rfl⟩ := Int.eq_ofNat_of_zero_le h0
  simp [bs, beBytes]

theorem wbig_ok3 (n : Int) (h0 : 0 ≤ n) (h : n ≤ (most 3 : Nat)) (w : World) :
    Calls Tryd.prog 14 #[.int .i64 n, .int .i64 3] w fun e w' => ∃ v, e = .returned (.tuple #[v, .nilIface]) ∧ w'.ownsRow w.heap.size 5 1 v 3 (bs (beBytes 3 n.toNat)) ∧ Below w.heap.size w w' := by
  have hm : ∀ W : World, (Instr.makeSlice 22 (.int .i64 3) (.int .i64 3)).run Tryd.prog W = .ok (.slice (some ⟨W.heap.size, 0, none⟩) 3 3) (W.alloc (.cells #[.int .u8 0, .int .u8 0, .int .u8 0] 5)) := fun _ => by kernel_rfl
  have hn : ¬ n < 0 := by omega
  have hn2 : ¬ ((most 3 : Nat) : Int) < n := by omega
  go_enter Tryd.func14, Tryd.ntmps14
  go_wp2_with (go_at_call 69; refine (wholds_any _ (by omega) (by omega) _).mono ?_; rintro e w' ⟨rfl, rfl⟩)
  refine wp_loop_rounds 4 ?_
  iterate 4
    rw [rounds_succ]
    go_wp2
  go_ret2
  refine ⟨_, rfl, own_new w _ _ _ 3 ?_ (by simp [bs, beBytes]) (by decide), (Below.refl _ _).alloc (Nat.le_refl _) _⟩
  obtain ⟨m, rfl⟩ := Int.eq_ofNat_of_zero_le h0
  simp [bs, beBytes]

theorem wbig_ok4 (n : Int) (h0 : 0 ≤ n) (h : n ≤ (most 4 : Nat)) (w : World) :
    Calls Tryd.prog 14 #[.int .i64 n, .int .i64 4] w fun e w' => ∃ v, e = .returned (.tuple #[v, .nilIface]) ∧ w'.ownsRow w.heap.size 5 1 v 4 (bs (beBytes 4 n.toNat)) ∧ Below w.heap.size w w' := by
  have hm : ∀ W : World, (Instr.makeSlice 22 (.int .i64 4) (.int .i64 4)).run Tryd.prog W = .ok (.slice (some ⟨W.heap.size, 0, none⟩) 4 4) (W.alloc (.cells #[.int .u8 0, .int .u8 0, .int .u8 0, .int .u8 0] 5)) := fun _ => by kernel_rfl
  have hn : ¬ n < 0 := by omega
  have hn2 : ¬ ((most 4 : Nat) : Int) < n := by omega
  go_enter Tryd.func14, Tryd.ntmps14
  go_wp2_with (go_at_call 69; refine (wholds_any _ (by omega) (by omega) _).mono ?_; rintro e w' ⟨rfl, rfl⟩)
  refine wp_loop_rounds 5 ?_
  iterate 5
    rw [rounds_succ]
    go_wp2
  go_ret2
  refine ⟨_, rfl, own_new w _ _ _ 4 ?_ (by simp [bs, beBytes]) (by decide), (Below.refl _ _).alloc (Nat.le_refl _) _⟩
  obtain ⟨m, rfl⟩ := Int.eq_ofNat_of_zero_le h0
  simp [bs, beBytes]

theorem wbig_ok (n s : Int) (h1 : 1 ≤ s) (h4 : s ≤ 4) (h0 : 0 ≤ n) (h : n ≤ (most s.toNat : Nat)) (w : World) :
    Calls Tryd.prog 14 #[.int .i64 n, .int .i64 s] w fun e w' => ∃ v, e = .returned (.tuple #[v, .nilIface]) ∧ w'.ownsRow w.heap.size 5 1 v s.toNat (bs (beBytes s.toNat n.toNat)) ∧ Below w.heap.size w w' := by
  rcases (by omega : s = 1 ∨ s = 2 ∨ s = 3 ∨ s = 4) with rfl | rfl | rfl | rfl
  · exact wbig_ok1 n h0 h w
  · exact wbig_ok2 n h0 h w
  · exact wbig_ok3 n h0 h w
  · exact wbig_ok4 n h0 h w

theorem wbig_bad (n s : Int) (hb : ¬ (1 ≤ s ∧ s ≤ 4 ∧ 0 ≤ n ∧ n ≤ (most s.toNat : Nat))) (w : World) :
    Calls Tryd.prog 14 #[.int .i64 n, .int .i64 s] w fun e w' => e = .returned (.tuple #[.slice none 0 0, .iface 113 (.int .i64 1)]) ∧ w = w' := by
  by_cases h1 : s < 1
  · clear hb
    go_enter Tryd.func14, Tryd.ntmps14
    go_wp2
    go_ret2
    exact ⟨rfl, rfl⟩
  by_cases h4 : 4 < s
  · clear hb
    go_enter Tryd.func14, Tryd.ntmps14
    go_wp2
    go_ret2
    exact ⟨rfl, rfl⟩
  by_cases h0 : n < 0
  · clear hb
    go_enter Tryd.func14, Tryd.ntmps14
    go_wp2
    go_ret2
    exact ⟨rfl, rfl⟩
  have h : ((most s.toNat : Nat) : Int) < n := by omega
  clear hb
  go_enter Tryd.func14, Tryd.ntmps14
  go_wp2_with (go_at_call 69; refine (wholds_any _ (by omega) (by omega) _).mono ?_; rintro e w' ⟨rfl, rfl⟩)
  go_ret2
  exact ⟨rfl, rfl⟩
end Go.Proofs.YtkbbkamnmdeagaaDoor
namespace Go.Proofs.YtkbbkamnmdeagaaDoor
open Go.RowKit

set_option maxRecDepth 100000 in
theorem roften_any (c : UInt8) (w : World) :
    Calls Tryd.prog 74 #[.int .u8 (c.toNat : Int)] w fun e w' => e = .returned (.int .i64 (oidx c)) ∧ w = w' := by
  go_enter Tryd.func74, Tryd.ntmps74
  go_wp2
  go_loop [3] (fun i => ∃ k : Nat, k ≤ 32 ∧ i = .int .i64 k ∧ Hid (∀ j, j < k → often[j]? ≠ some c)) (fun i => 32 - (intOf i).toNat)
  case atStart => exact ⟨0, by omega, rfl, fun j hj => by omega⟩
  case round =>
    obtain ⟨k, hk, rfl, HN⟩ := hrel
    by_cases hlt : k < 32
    · have ha := often_arr k hlt
      have hat : often[k]? = some (often.getD k 0) := by
        simp only [List.getD]
        rw [List.getElem?_eq_getElem (by exact hlt)]
        rfl
      by_cases he : often.getD k 0 = c
      · have hi : oidx c = k := oidx_often (by rw [hat, he])
        have hq : ((((ByteArray.mk often.toArray)[k]'(hlt)).toNat : Int) == (c.toNat : Int)) = true := by rw [← ha, he]; simp
        have HI := Lib.hid hi
        unfold often at hq
        clear ha hat he hi
        go_wp2
        go_ret
        exact ⟨by rw [HI.out]; rfl, rfl⟩
      · have hq : ((((ByteArray.mk often.toArray)[k]'(hlt)).toNat : Int) == (c.toNat : Int)) = false := by
          rw [← ha]
          simp only [beq_eq_false_iff_ne, ne_eq]
          intro h
          apply he
          apply UInt8.toNat_inj.1
          omega
        have HM : Hid (∀ j, j < k + 1 → often[j]? ≠ some c) := by
          intro j hj
          rcases Nat.lt_succ_iff_lt_or_eq.1 hj with h | rfl
          · exact HN.out j h
          · rw [hat]
            intro h
            injection h with h
            exact he h
        unfold often at hq
        clear ha hat he HN
        go_wp2
        go_round
        case rel => exact ⟨k + 1, by omega, by go_num, HM⟩
        case measure => simp [intOf]; omega
    · have hk32 : k = 32 := by omega
      subst hk32
      have hi : oidx c = -1 := by
        have hb := oidx_bounds c
        rcases Int.lt_or_le (oidx c) 0 with h | h
        · omega
        · obtain ⟨z, hz⟩ := Int.eq_ofNat_of_zero_le h
          exact absurd (often_at hz) (HN.out z (by omega))
      have HI := Lib.hid hi
      clear hi HN
      go_wp2
      go_ret
      exact ⟨by rw [HI.out]; rfl, rfl⟩
theorem roften_k (c : UInt8) (z : Int) (h : oidx c = z) (w : World) :
    Calls Tryd.prog 74 #[.int .u8 (c.toNat : Int)] w fun e w' => e = .returned (.int .i64 z) ∧ w = w' := by
  rw [← h]
  exact roften_any c w

/-- Bits, a byte each. -/
def bb (l : List Bool) : List UInt8 := l.map fun b => UInt8.ofNat b.toNat
theorem bb_append (a b : List Bool) : bb (a ++ b) = bb a ++ bb b := by simp [bb]
theorem bb_length (a : List Bool) : (bb a).length = a.length := by simp [bb]
theorem bs_bb_one (b : Bool) : bs (bb [b]) = [.int .u8 (b.toNat : Int)] := by cases b <;> rfl

/-- The bit of a number by the reference's power. -/
theorem rpow_bit (x i : Nat) (hx : x < 512) (hi : i ≤ 8) : ∃ P : Int, 1 ≤ P ∧ (0 : Int) ≤ (x : Int) / P ∧ (x : Int) / P ≤ 512 ∧ (x : Int) / P % 2 = ((x.testBit i).toNat : Int) ∧
    ∀ W : World, Calls Tryd.prog 68 #[.int .i64 (i : Int)] W fun e w' => e = .returned (.int .i64 P) ∧ W = w' := by
  refine ⟨((2 ^ i : Nat) : Int), ?_, ?_, ?_, ?_, fun W => ?_⟩
  · have := Nat.two_pow_pos i
    generalize 2 ^ i = p at *
    omega
  · exact Int.ediv_nonneg (by omega) (Int.natCast_nonneg _)
  · have h1 := Int.ediv_le_self ((2 ^ i : Nat) : Int) (show (0 : Int) ≤ (x : Int) by omega)
    omega
  · rw [← Int.natCast_ediv, Nat.toNat_testBit]
    omega
  · have h := rpow_any (i : Int) (by omega) (by omega) W
    rw [Int.toNat_natCast] at h
    simpa using h

set_option maxRecDepth 100000 in
set_option maxHeartbeats 4000000 in
theorem rbits_any (l : List UInt8) (hl : l.length ≤ 68719476736) (w : World) :
    Calls Tryd.prog 73 #[.string ⟨l.toArray⟩] w fun e w' => ∃ v, e = .returned v ∧ w'.ownsRow w.heap.size 5 1 v (encBits l).length (bs (bb (encBits l))) ∧ Below w.heap.size w w' := by
  go_enter Tryd.func73, Tryd.ntmps73
  go_wp2
  go_loopw [3, 4] (fun v i wr => ∃ k : Nat, k ≤ l.length ∧ i = .int .i64 k ∧ wr.ownsRow w.heap.size 5 1 v (encBits (l.take k)).length (bs (bb (encBits (l.take k)))) ∧ Below w.heap.size w wr) (fun _ i _ => l.length - (intOf i).toNat)
  case atStart => exact ⟨0, Nat.zero_le _, rfl, World.ownsRow_nil _ _ _ _, Below.refl _ _⟩
  case round =>
    obtain ⟨k, hk, rfl, hown, hb⟩ := hrel
    by_cases hlt : k < l.length
    · have hsz := hb.size
      have hlen : (encBits (l.take k)).length ≤ 1099511627776 := by
        have h1 := encBits_le (l.take k)
        have h2 : (l.take k).length ≤ l.length := List.length_take_le' ..
        omega
      have HT := Lib.hid (encBits_take l k hlt)
      have hyb : l[k].toNat < 256 := l[k].toNat_lt
      by_cases h0 : 0 ≤ oidx l[k]
      · obtain ⟨z, hz, hz32, hcw, _⟩ := cw_often h0
        have HZ := Lib.hid hz
        have HC := Lib.hid hcw
        clear hz hcw h0
        go_wp2_with fail
        refine (roften_k l[k] z HZ.out wr).mono ?_
        rintro e w' ⟨rfl, rfl⟩
        go_wp2_with (at_builtin; refine wpList_push rfl _ _ rfl w.heap.size _ _ _ rfl hown rfl rfl (by omega) hsz ?_; intro v1 w1 hown1 hb1)
        have hb01 := hb.trans hb1
        have e1 : bs (bb (encBits (l.take k))) ++ [Value.int .u8 0] = bs (bb (encBits (l.take k) ++ [false])) := by rw [bb_append, bs_append, bs_bb_one]; rfl
        rw [e1] at hown1
        clear e1 hown hb hb1 hsz
        go_loopw [3, 9] (fun v j wr => ∃ (m : Nat) (pre : List Bool), m ≤ 5 ∧ j = .int .i64 ((m : Int) - 1) ∧ Hid (bitsOf 5 z = pre ++ bitsOf m z) ∧ pre.length + m = 5 ∧ wr.ownsRow w.heap.size 5 1 v ((encBits (l.take k)).length + 1 + pre.length) (bs (bb (encBits (l.take k) ++ [false] ++ pre))) ∧ Below w.heap.size w wr) (fun _ j _ => (intOf j + 1).toNat)
        case atStart => exact ⟨5, [], Nat.le_refl _, by go_num, rfl, by simp, by simpa using hown1, hb01⟩
        case round =>
          obtain ⟨m, pre, hmm, rfl, HP, hpl, hown2, hb2⟩ := hrel
          clear hown1 hb01
          rcases m with _ | i
          · have e := HP.out
            rw [show ∀ x, bitsOf 0 x = [] from fun _ => rfl, List.append_nil] at e
            have HE := Lib.hid e
            clear e HP
            have hf : (encBits (l.take (k + 1))).length = (encBits (l.take k)).length + 1 + pre.length := by
              rw [HT.out, HC.out, List.length_append, List.length_cons, HE.out]
              omega
            have HF := Lib.hid hf
            clear hf
            go_wp2
            go_roundw
            case rel =>
              refine ⟨k + 1, by omega, by go_num, ?_, hb2⟩
              rw [HF.out, HT.out, HC.out, HE.out, List.append_cons]
              exact hown2
            case measure => simp [intOf]; omega
          · have ei : (((i + 1 : Nat) : Int) - 1) = (i : Int) := by omega
            rw [ei]
            have e := HP.out
            rw [show bitsOf (i + 1) z = z.testBit i :: bitsOf i z from rfl, List.append_cons] at e
            have HE := Lib.hid e
            clear e HP ei
            have hi8 : i ≤ 8 := by omega
            obtain ⟨Pw, hp1, hp0, hp2, hpb, HPC⟩ := rpow_bit z i (by omega) hi8
            have HPH := Lib.hid HPC
            have hsz2 := hb2.size
            have hbb2 : (z.testBit i).toNat ≤ 1 := by cases z.testBit i <;> decide
            have HPB := Lib.hid hpb
            clear HPC hpb
            generalize z.testBit i = bt at *
            have hpb := HPB.out
            go_wp2_with (first
              | (go_at_call 68; refine (HPH.out _).mono ?_; rintro e w' ⟨rfl, rfl⟩)
              | (at_builtin; refine wpList_push rfl _ _ rfl w.heap.size _ _ _ rfl hown2 rfl rfl (by omega) hsz2 ?_; intro v3 w3 hown3 hb3))
            go_roundw
            case rel =>
              refine ⟨i, pre ++ [bt], by omega, by go_num, HE.out, by simp; omega, ?_, hb2.trans hb3⟩
              rw [← List.append_assoc, bb_append, bs_append, List.length_append, bs_bb_one]
              first | exact hown3 | (rw [HPB.out] at hown3; exact hown3)
            case measure => simp [intOf]
      · have hcw := cw_rare h0
        have hm1 : oidx l[k] = -1 := by have := (oidx_bounds l[k]).1; omega
        have HZ := Lib.hid hm1
        have HC := Lib.hid hcw
        have hcon := fun W => roften_k l[k] (-1) HZ.out W
        clear hm1 hcw h0 HZ
        have hyy0 : ((ByteArray.mk l.toArray)[k]'(hlt)).toNat = l[k].toNat := rfl
        generalize hy0 : l[k].toNat = y at *
        have HCON := Lib.hid hcon
        have HY0 := Lib.hid hy0
        have hyy : (((ByteArray.mk l.toArray)[k]'(hlt)).toNat : Int) = (y : Int) := by rw [hyy0]
        clear hcon hy0 hyy0
        go_wp2_with fail
        refine (HCON.out wr).mono ?_
        rintro e w' ⟨rfl, rfl⟩
        go_wp2_with (at_builtin; refine wpList_push rfl _ _ rfl w.heap.size _ _ _ rfl hown rfl rfl (by omega) hsz ?_; intro v1 w1 hown1 hb1)
        have hb01 := hb.trans hb1
        have e1 : bs (bb (encBits (l.take k))) ++ [Value.int .u8 1] = bs (bb (encBits (l.take k) ++ [true])) := by rw [bb_append, bs_append, bs_bb_one]; rfl
        rw [e1] at hown1
        clear e1 hown hb hb1 hsz
        go_loopw [3, 9] (fun v j wr => ∃ (m : Nat) (pre : List Bool), m ≤ 8 ∧ j = .int .i64 ((m : Int) - 1) ∧ Hid (bitsOf 8 y = pre ++ bitsOf m y) ∧ pre.length + m = 8 ∧ wr.ownsRow w.heap.size 5 1 v ((encBits (l.take k)).length + 1 + pre.length) (bs (bb (encBits (l.take k) ++ [true] ++ pre))) ∧ Below w.heap.size w wr) (fun _ j _ => (intOf j + 1).toNat)
        case atStart => exact ⟨8, [], Nat.le_refl _, by go_num, rfl, by simp, by simpa using hown1, hb01⟩
        case round =>
          obtain ⟨m, pre, hmm, rfl, HP, hpl, hown2, hb2⟩ := hrel
          clear hown1 hb01
          rcases m with _ | i
          · have e := HP.out
            rw [show ∀ x, bitsOf 0 x = [] from fun _ => rfl, List.append_nil] at e
            have HE := Lib.hid e
            clear e HP
            have hf : (encBits (l.take (k + 1))).length = (encBits (l.take k)).length + 1 + pre.length := by
              rw [HT.out, HC.out, List.length_append, List.length_cons, HE.out]
              omega
            have HF := Lib.hid hf
            clear hf
            go_wp2
            go_roundw
            case rel =>
              refine ⟨k + 1, by omega, by go_num, ?_, hb2⟩
              rw [HF.out, HT.out, HC.out, HE.out, List.append_cons]
              exact hown2
            case measure => simp [intOf]; omega
          · have ei : (((i + 1 : Nat) : Int) - 1) = (i : Int) := by omega
            rw [ei]
            have e := HP.out
            rw [show bitsOf (i + 1) y = y.testBit i :: bitsOf i y from rfl, List.append_cons] at e
            have HE := Lib.hid e
            clear e HP ei
            have hi8 : i ≤ 8 := by omega
            obtain ⟨Pw, hp1, hp0, hp2, hpb, HPC⟩ := rpow_bit y i (by omega) hi8
            have HPH := Lib.hid HPC
            have hsz2 := hb2.size
            have hbb2 : (y.testBit i).toNat ≤ 1 := by cases y.testBit i <;> decide
            have HPB := Lib.hid hpb
            clear HPC hpb
            generalize y.testBit i = bt at *
            have hpb := HPB.out
            go_wp2_with (first
              | (go_at_call 68; refine (HPH.out _).mono ?_; rintro e w' ⟨rfl, rfl⟩)
              | (at_builtin; refine wpList_push rfl _ _ rfl w.heap.size _ _ _ rfl hown2 rfl rfl (by omega) hsz2 ?_; intro v3 w3 hown3 hb3))
            go_roundw
            case rel =>
              refine ⟨i, pre ++ [bt], by omega, by go_num, HE.out, by simp; omega, ?_, hb2.trans hb3⟩
              rw [← List.append_assoc, bb_append, bs_append, List.length_append, bs_bb_one]
              first | exact hown3 | (rw [HPB.out] at hown3; exact hown3)
            case measure => simp [intOf]
    · have hkl : k = l.length := by omega
      subst hkl
      rw [List.take_length] at hown
      go_wp2
      go_ret
      exact ⟨_, rfl, hown, hb⟩

theorem rBits_any (l : List UInt8) (hl : l.length ≤ 68719476736) (w : World) :
    Calls Tryd.prog 27 #[.string ⟨l.toArray⟩] w fun e w' => e = .returned (.int .i64 ((encBits l).length : Nat)) ∧ Below w.heap.size w w' := by
  go_enter Tryd.func27, Tryd.ntmps27
  go_wp2_with fail
  refine (rbits_any l hl w).mono ?_
  rintro e w' ⟨v, rfl, hown, hb⟩
  obtain ⟨A, c, rfl, _, _⟩ := isBytes_of_own (l := bb (encBits l)) (by rw [bb_length]; exact hown)
  rw [bb_length]
  clear hown
  go_wp2
  go_ret
  exact ⟨rfl, hb⟩
end Go.Proofs.YtkbbkamnmdeagaaDoor
