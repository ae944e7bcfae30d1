/-
  Numbers in so many bytes: wire.holds, wire.Big, wire.Read and the reference's holds, pow, Big, Word, Read, by their contracts. No condition but the bounds that each names.
-/
import Derived.Test.YtkbbkamnmdeagaaDoorNum
import Derived.Test.YtkbbkamnmdeagaaDoorTold
import Derived.Test.YtkbbkamnmdeagaaDoorBytes
namespace Go.Proofs.YtkbbkamnmdeagaaDoor
open Go.RowKit

theorem wholds_any (s : Int) (h1 : 1 ≤ s) (h4 : s ≤ 4) (w : World) :
    Calls Tryd.prog 69 #[.int .i64 s] w fun e w' => e = .returned (.int .i64 (most s.toNat : Nat)) ∧ w = w' := by
  rcases (by omega : s = 1 ∨ s = 2 ∨ s = 3 ∨ s = 4) with rfl | rfl | rfl | rfl
  all_goals
    go_enter Tryd.func69, Tryd.ntmps69
    go_wp2
    go_ret
    exact ⟨by simp [most], rfl⟩

/-- The reference's power of two. -/
theorem rpow_any (n : Int) (h0 : 0 ≤ n) (h : n ≤ 62) (w : World) :
    Calls Tryd.prog 68 #[.int .i64 n] w fun e w' => e = .returned (.int .i64 ((2 : Int) ^ n.toNat)) ∧ w = w' := by
  obtain ⟨m, rfl⟩ := Int.eq_ofNat_of_zero_le h0
  rw [Int.toNat_natCast]
  go_enter Tryd.func68, Tryd.ntmps68
  go_wp2
  go_loop [3, 4] (fun x i => ∃ k : Nat, k ≤ m ∧ i = .int .i64 k ∧ x = .int .i64 ((2 : Int) ^ k)) (fun _ i => m - (intOf i).toNat)
  case atStart => exact ⟨0, Nat.zero_le _, rfl, rfl⟩
  case round =>
    obtain ⟨k, hk, rfl, rfl⟩ := hrel
    have hb : (2 : Int) ^ k * 2 ≤ 4611686018427387904 * 2 ∧ 0 < (2 : Int) ^ k := by
      constructor
      · have h1 : (2 : Int) ^ k ≤ 2 ^ 62 := ipow_le (by omega)
        omega
      · exact Int.pow_pos (by omega)
    obtain ⟨hb1, hb2⟩ := hb
    by_cases hlt : k < m
    · have hb3 : (2 : Int) ^ k * 2 ≤ 9223372036854775807 := by
        have h1 : (2 : Int) ^ k ≤ 2 ^ 61 := ipow_le (by omega)
        omega
      clear hb1
      go_wp2
      go_round
      case rel => exact ⟨k + 1, by omega, by go_num, by rw [Int.pow_succ]⟩
      case measure => simp [intOf]; omega
    · have hkm : k = m := by omega
      subst hkm
      clear hb1 hb2
      go_wp2
      go_ret
      exact ⟨rfl, rfl⟩

theorem rholds_any (s : Int) (h1 : 1 ≤ s) (h4 : s ≤ 4) (w : World) :
    Calls Tryd.prog 67 #[.int .i64 s] w fun e w' => e = .returned (.int .i64 (most s.toNat : Nat)) ∧ w = w' := by
  rcases (by omega : s = 1 ∨ s = 2 ∨ s = 3 ∨ s = 4) with rfl | rfl | rfl | rfl
  all_goals
    go_enter Tryd.func67, Tryd.ntmps67
    go_wp2_with (go_at_call 68; refine (rpow_any _ (by omega) (by omega) _).mono ?_; rintro e w' ⟨rfl, rfl⟩)
    go_ret
    exact ⟨by simp [most], rfl⟩

/-- A row that has just been laid is one of the call's own. -/
theorem wbig_ok1 (n : Int) (h0 : 0 ≤ n) (h : n ≤ (most 1 : Nat)) (w : World) :
    Calls Tryd.prog 14 #[.int .i64 n, .int .i64 1] w fun e w' => ∃ v, e = .returned (.tuple #[v, .nilIface]) ∧ w'.ownsRow w.heap.size 5 1 v 1 (bs (beBytes 1 n.toNat)) ∧ Below w.heap.size w w' := by
  have hm : ∀ W : World, (Instr.makeSlice 22 (.int .i64 1) (.int .i64 1)).run Tryd.prog W = .ok (.slice (some ⟨W.heap.size, 0, none⟩) 1 1) (W.alloc (.cells #[.int .u8 0] 5)) := fun _ => by kernel_rfl
  have hn : ¬ n < 0 := by omega
  have hn2 : ¬ ((most 1 : Nat) : Int) < n := by omega
  go_enter Tryd.func14, Tryd.ntmps14
  go_wp2_with (go_at_call 69; refine (wholds_any _ (by omega) (by omega) _).mono ?_; rintro e w' ⟨rfl, rfl⟩)
  refine wp_loop_rounds 2 ?_
  iterate 2
    rw [rounds_succ]
    go_wp2
  go_ret2
  refine ⟨_, rfl, own_new w _ _ _ 1 ?_ (by simp [bs, beBytes]) (by decide), (Below.refl _ _).alloc (Nat.le_refl _) _⟩
  obtain ⟨m, rfl⟩ := Int.eq_ofNat_of_zero_le h0
  simp [bs, beBytes]

theorem wbig_ok2 (n : Int) (h0 : 0 ≤ n) (h : n ≤ (most 2 : Nat)) (w : World) :
    Calls Tryd.prog 14 #[.int .i64 n, .int .i64 2] w fun e w' => ∃ v, e = .returned (.tuple #[v, .nilIface]) ∧ w'.ownsRow w.heap.size 5 1 v 2 (bs (beBytes 2 n.toNat)) ∧ Below w.heap.size w w' := by
  have hm : ∀ W : World, (Instr.makeSlice 22 (.int .i64 2) (.int .i64 2)).run Tryd.prog W = .ok (.slice (some ⟨W.heap.size, 0, none⟩) 2 2) (W.alloc (.cells #[.int .u8 0, .int .u8 0] 5)) := fun _ => by kernel_rfl
  have hn : ¬ n < 0 := by omega
  have hn2 : ¬ ((most 2 : Nat) : Int) < n := by omega
  go_enter Tryd.func14, Tryd.ntmps14
  go_wp2_with (go_at_call 69; refine (wholds_any _ (by omega) (by omega) _).mono ?_; rintro e w' ⟨rfl, rfl⟩)
  refine wp_loop_rounds 3 ?_
  iterate 3
    rw [rounds_succ]
    go_wp2
  go_ret2
  refine ⟨_, rfl, own_new w _ _ _ 2 ?_ (by simp [bs, beBytes]) (by decide), (Below.refl _ _).alloc (Nat.le_refl _) _⟩
  obtain ⟨m, rfl⟩ := Int.eq_ofNat_of_zero_le h0
  simp [bs, beBytes]

theorem wbig_ok3 (n : Int) (h0 : 0 ≤ n) (h : n ≤ (most 3 : Nat)) (w : World) :
    Calls Tryd.prog 14 #[.int .i64 n, .int .i64 3] w fun e w' => ∃ v, e = .returned (.tuple #[v, .nilIface]) ∧ w'.ownsRow w.heap.size 5 1 v 3 (bs (beBytes 3 n.toNat)) ∧ Below w.heap.size w w' := by
  have hm : ∀ W : World, (Instr.makeSlice 22 (.int .i64 3) (.int .i64 3)).run Tryd.prog W = .ok (.slice (some ⟨W.heap.size, 0, none⟩) 3 3) (W.alloc (.cells #[.int .u8 0, .int .u8 0, .int .u8 0] 5)) := fun _ => by kernel_rfl
  have hn : ¬ n < 0 := by omega
  have hn2 : ¬ ((most 3 : Nat) : Int) < n := by omega
  go_enter Tryd.func14, Tryd.ntmps14
  go_wp2_with (go_at_call 69; refine (wholds_any _ (by omega) (by omega) _).mono ?_; rintro e w' ⟨rfl, rfl⟩)
  refine wp_loop_rounds 4 ?_
  iterate 4
    rw [rounds_succ]
    go_wp2
  go_ret2
  refine ⟨_, rfl, own_new w _ _ _ 3 ?_ (by simp [bs, beBytes]) (by decide), (Below.refl _ _).alloc (Nat.le_refl _) _⟩
  obtain ⟨m, rfl⟩ := Int.eq_ofNat_of_zero_le h0
  simp [bs, beBytes]

theorem wbig_ok4 (n : Int) (h0 : 0 ≤ n) (h : n ≤ (most 4 : Nat)) (w : World) :
    Calls Tryd.prog 14 #[.int .i64 n, .int .i64 4] w fun e w' => ∃ v, e = .returned (.tuple #[v, .nilIface]) ∧ w'.ownsRow w.heap.size 5 1 v 4 (bs (beBytes 4 n.toNat)) ∧ Below w.heap.size w w' := by
  have hm : ∀ W : World, (Instr.makeSlice 22 (.int .i64 4) (.int .i64 4)).run Tryd.prog W = .ok (.slice (some ⟨W.heap.size, 0, none⟩) 4 4) (W.alloc (.cells #[.int .u8 0, .int .u8 0, .int .u8 0, .int .u8 0] 5)) := fun _ => by kernel_rfl
  have hn : ¬ n < 0 := by omega
  have hn2 : ¬ ((most 4 : Nat) : Int) < n := by omega
  go_enter Tryd.func14, Tryd.ntmps14
  go_wp2_with (go_at_call 69; refine (wholds_any _ (by omega) (by omega) _).mono ?_; rintro e w' ⟨rfl, rfl⟩)
  refine wp_loop_rounds 5 ?_
  iterate 5
    rw [rounds_succ]
    go_wp2
  go_ret2
  refine ⟨_, rfl, own_new w _ _ _ 4 ?_ (by simp [bs, beBytes]) (by decide), (Below.refl _ _).alloc (Nat.le_refl _) _⟩
  obtain ⟨m, rfl⟩ := Int.eq_ofNat_of_zero_le h0
  simp [bs, beBytes]

theorem wbig_ok (n s : Int) (h1 : 1 ≤ s) (h4 : s ≤ 4) (h0 : 0 ≤ n) (h : n ≤ (most s.toNat : Nat)) (w : World) :
    Calls Tryd.prog 14 #[.int .i64 n, .int .i64 s] w fun e w' => ∃ v, e = .returned (.tuple #[v, .nilIface]) ∧ w'.ownsRow w.heap.size 5 1 v s.toNat (bs (beBytes s.toNat n.toNat)) ∧ Below w.heap.size w w' := by
  rcases (by omega : s = 1 ∨ s = 2 ∨ s = 3 ∨ s = 4) with rfl | rfl | rfl | rfl
  · exact wbig_ok1 n h0 h w
  · exact wbig_ok2 n h0 h w
  · exact wbig_ok3 n h0 h w
  · exact wbig_ok4 n h0 h w

theorem wbig_bad (n s : Int) (hb : ¬ (1 ≤ s ∧ s ≤ 4 ∧ 0 ≤ n ∧ n ≤ (most s.toNat : Nat))) (w : World) :
    Calls Tryd.prog 14 #[.int .i64 n, .int .i64 s] w fun e w' => e = .returned (.tuple #[.slice none 0 0, .iface 113 (.int .i64 1)]) ∧ w = w' := by
  by_cases h1 : s < 1
  · clear hb
    go_enter Tryd.func14, Tryd.ntmps14
    go_wp2
    go_ret2
    exact ⟨rfl, rfl⟩
  by_cases h4 : 4 < s
  · clear hb
    go_enter Tryd.func14, Tryd.ntmps14
    go_wp2
    go_ret2
    exact ⟨rfl, rfl⟩
  by_cases h0 : n < 0
  · clear hb
    go_enter Tryd.func14, Tryd.ntmps14
    go_wp2
    go_ret2
    exact ⟨rfl, rfl⟩
  have h : ((most s.toNat : Nat) : Int) < n := by omega
  clear hb
  go_enter Tryd.func14, Tryd.ntmps14
  go_wp2_with (go_at_call 69; refine (wholds_any _ (by omega) (by omega) _).mono ?_; rintro e w' ⟨rfl, rfl⟩)
  go_ret2
  exact ⟨rfl, rfl⟩
end Go.Proofs.YtkbbkamnmdeagaaDoor
