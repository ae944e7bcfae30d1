/-
  slices.Concat at []uint8, whatever slices it is handed; slices.Grow of nil. Condition: the bound on the bytes.
-/
import Derived.Test.YtkbbkamnmdeagaaDoorParts
import Derived.Lib.AppendZeros
namespace Go.Proofs.YtkbbkamnmdeagaaDoor
open Go.RowKit

set_option maxRecDepth 100000 in
set_option maxHeartbeats 1000000 in
theorem growB_any (n : Nat) (hn : n * 1 ≤ 140737488355328) (w : World) :
    Calls Tryd.prog 97 #[.slice none 0 0, .int .i64 (n : Int)] w fun e w' => ∃ v, e = .returned v ∧ w'.ownsRow w.heap.size 5 1 v 0 [] ∧ Below w.heap.size w w' := by
  rcases Nat.eq_zero_or_pos n with rfl | h0
  · go_enter Tryd.func97, Tryd.ntmps97
    go_wp2
    go_ret
    exact ⟨_, rfl, World.ownsRow_nil _ _ _ _, Below.refl _ _⟩
  · obtain ⟨i0, hi, hz0, hz1, hz2⟩ := info_parts u8_info
    have hneg : ¬ ((n : Int) < 0) := by omega
    have hpos : (0 : Int) < (n : Int) := by omega
    have hG := grownCap_ge w n 0 5
    have hG63 := grownCap_le_maxLen w n 0 5 (by unfold maxLen; omega)
    have hrun := fun ty => Lib.run_append_nil_zeros (P := Tryd.prog) w 22 3 ty 5 i0 (.int .u8 0 : Value) .i64 .i64 Tryd.underlying22 Tryd.underlying3 hi hz0 n h0 (by omega) (by omega) (by rw [hz2]; omega)
    obtain ⟨G, hGe⟩ : ∃ G, grownCap w n 0 5 = G := ⟨_, rfl⟩
    rw [hGe] at hG hG63 hrun
    obtain ⟨CS, hCS⟩ : ∃ CS, Builtin.zeroCells (.int .u8 0 : Value).cells n ++ Builtin.zeroCells (.int .u8 0 : Value).cells (G - n) = CS := ⟨_, rfl⟩
    have hsz : CS.size = G * 1 := by
      rw [← hCS, Array.size_append, zeroCells_size, zeroCells_size]
      have : (.int .u8 0 : Value).cells.size = 1 := by rfl
      rw [this, ← Nat.add_mul]
      congr 1
      omega
    rw [hCS] at hrun
    have HSZ := Lib.hid hsz
    have hGI : (0 : Int) ≤ (G : Int) := by omega
    unfold maxLen at hG63
    clear hi hz0 hz1 hz2 hGe hCS hsz
    go_enter Tryd.func97, Tryd.ntmps97
    go_wp2_with (at_builtin; refine Lib.wpList_append_run _ rfl _ _ _ _ rfl _ _ rfl rfl _ _ (hrun _) ?_)
    go_ret
    refine ⟨_, rfl, ⟨rfl, .inr ⟨w.heap.size, G, CS, rfl, Nat.le_refl _, heap_alloc_new _ _, by omega, by unfold maxLen; omega, HSZ.out, by simp⟩⟩, ((Below.refl _ _).drew).alloc (Nat.le_refl _) _⟩

set_option maxRecDepth 100000 in
set_option maxHeartbeats 4000000 in
theorem concatB_any (ps : List Part) (pb : Nat) (w : World) (hps : PartsAt w 1 pb ps) (hm : total ps * 1 ≤ 140737488355328) (hl : ps.length ≤ 1000000) :
    Calls Tryd.prog 77 #[.slice (some ⟨pb, 0, none⟩) ps.length ps.length] w fun e w' => ∃ v, e = .returned v ∧ w'.ownsRow w.heap.size 5 1 v (total ps) (flat ps) ∧ Below w.heap.size w w' := by
  obtain ⟨i0, hi, hz0, hz1, hz2⟩ := info_parts u8_info
  have HI := Lib.hid hi
  have HZ0 := Lib.hid hz0
  have HZ1 := Lib.hid hz1
  have HZ2 := Lib.hid hz2
  have HP := Lib.hid hps
  clear hi hz0 hz1 hz2 hps
  go_enter Tryd.func77, Tryd.ntmps77
  go_wp2
  go_loop [3, 11] (fun t i => ∃ k : Nat, k ≤ ps.length ∧ i = .int .i64 (k : Int) ∧ t = .int .i64 ((total (ps.take k) : Nat) : Int)) (fun _ i => ps.length - (intOf i).toNat)
  case atStart => exact ⟨0, Nat.zero_le _, rfl, rfl⟩
  case round =>
    obtain ⟨k, hk, rfl, rfl⟩ := hrel
    have hle := total_take_le ps k
    have hb : total (ps.take k) ≤ 140737488355328 := by omega
    by_cases hlt : k < ps.length
    · have hsn := total_take_succ ps k hlt
      have hle2 := total_take_le ps (k + 1)
      obtain ⟨c0, _⟩ := HP.out k hlt
      have HS := Lib.hid hsn
      have hn : ps[k].n ≤ 140737488355328 := by omega
      clear hsn
      generalize ps[k].n = n at *
      generalize ps[k].A = A at *
      generalize ps[k].c = c at *
      go_wp2
      go_round
      case rel => exact ⟨k + 1, by omega, by go_num, by rw [HS.out]; go_num⟩
      case measure => simp [intOf]; omega
    · have hke : ps.take k = ps := List.take_of_length_le (by omega)
      rw [hke]
      clear hke
      go_wp2_with (go_at_call 97; refine (growB_any _ (by omega) _).mono ?_; rintro e w1 ⟨v, rfl, hown, hb1⟩)
      go_loopw [6, 27] (fun v i wr => ∃ k : Nat, k ≤ ps.length ∧ i = .int .i64 (k : Int) ∧ Hid (wr.ownsRow w.heap.size 5 1 v (total (ps.take k)) (flat (ps.take k)) ∧ Below w.heap.size w wr)) (fun _ i _ => ps.length - (intOf i).toNat)
      case atStart => exact ⟨0, Nat.zero_le _, rfl, hown, hb1⟩
      case round =>
        obtain ⟨k, hk, rfl, HR⟩ := hrel
        clear hown hb1
        by_cases hlt : k < ps.length
        · obtain ⟨c0, hr⟩ := HP.out k hlt
          have hsn := total_take_succ ps k hlt
          have hfl := flat_take_succ ps k hlt
          have hle2 := total_take_le ps (k + 1)
          have hone := (HP.out k hlt).2.2
          obtain ⟨ho, hbw⟩ := HR.out
          have c1 := cell_belowP hbw c0
          have hr2 := hr.1.below hbw
          have HS := Lib.hid hsn
          have HF := Lib.hid hfl
          have HO := Lib.hid ho
          have hsum : total (ps.take k) + ps[k].n ≤ total ps := by omega
          have hbs := hbw.size
          have hby : (total (ps.take k) + ps[k].n) * 1 ≤ total ps * 1 := Nat.mul_le_mul_right _ hsum
          clear hsn hfl ho hr
          generalize ps[k].n = n at *
          generalize ps[k].A = A at *
          generalize ps[k].c = c at *
          generalize ps[k].xs = xs at *
          clear c0
          go_wp2_with (at_builtin; refine wpList_append_any _ rfl _ _ 22 rfl w.heap.size 5 i0 (.int .u8 0 : Value) 1 1 Tryd.underlying22 HI.out HZ0.out HZ1.out HZ2.out rfl (by decide) _ _ _ rfl HO.out w.heap.size A n c xs rfl hr2 hone (by unfold maxLen; omega) (by omega) hbs ?_; intro v2 w2 hown2 hg2 _)
          go_roundw
          case rel => exact ⟨k + 1, by omega, by go_num, by rw [HS.out, HF.out]; exact hown2, below_append hbw HO.out hg2 hbs⟩
          case measure => simp [intOf]; omega
        · have hke : ps.take k = ps := List.take_of_length_le (by omega)
          rw [hke] at HR
          clear hke
          go_wp2
          go_ret
          exact ⟨_, rfl, HR.out.1, HR.out.2⟩
end Go.Proofs.YtkbbkamnmdeagaaDoor
