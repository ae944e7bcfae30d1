/-
  The reference's table behind a pointer: Find, Add. Condition: the fields' texts' lengths.
-/
import Derived.Test.YtkbbkamnmdeagaaDoorRefTab2
import Derived.Deep.QuietTactic
import Derived.BigQuiet
import Derived.Deep.RegionHeld3
namespace Go.Proofs.YtkbbkamnmdeagaaDoor
open Go.RowKit
attribute [local go_sem ↓] Go.wp_at_zero Go.wp_at_succ

theorem bnd_step {p : Fld → Bool} {l : List Fld} {i : Nat} (h : i < l.length) : (p l[i] = true → bnd p l i = i + 1) ∧ (¬ p l[i] = true → bnd p l i = bnd p l (i + 1)) := by
  have e := bnd_at p l i h
  exact ⟨fun h1 => by rw [e, if_pos h1], fun h1 => by rw [e, if_neg h1]⟩

set_option maxRecDepth 100000 in
set_option maxHeartbeats 4000000 in
theorem rfind_any {w : World} {g : Nat} {A : Option Addr} {c : Nat} {xs : List Fld} {mx : Nat} (h : RTab w g A c xs mx) (f : Fld) (hf : fOk f) :
    Calls Tryd.prog 50 #[.pointer (some ⟨g, 0, none⟩), .agg #[.string ⟨f.1.toArray⟩, .string ⟨f.2.toArray⟩]] w fun e w' =>
      e = .returned (.tuple #[.int .i64 ((fnd (isF f) (tAll xs) : Nat) : Int), .int .i64 ((fnd (isN f) (tAll xs) : Nat) : Int)]) ∧ Below w.heap.size w w' := by
  obtain ⟨T, hTe⟩ : ∃ T, tAll xs = T := ⟨_, rfl⟩
  have hTl2 : T.length ≤ 140 := by rw [← hTe, tAll_len]; have := h.len; omega
  have hTp : 0 < T.length := by rw [← hTe, tAll_len]; omega
  rw [hTe]
  have HTe := Lib.hid hTe
  clear hTe
  have hbx := (Below.refl w.heap.size w).alloc (Nat.le_refl _) (.cells #[.string ⟨f.1.toArray⟩, .string ⟨f.2.toArray⟩] 86)
  have hT := Lib.hid (h.below hbx)
  have hX : Blk (w.alloc (.cells #[.string ⟨f.1.toArray⟩, .string ⟨f.2.toArray⟩] 86)) w.heap.size 86 #[.string ⟨f.1.toArray⟩, .string ⟨f.2.toArray⟩] := Blk.new _ _ _
  have HX := Lib.hid hX
  have HBX := Lib.hid hbx
  clear h hX hbx
  go_enter Tryd.func50, Tryd.ntmps50
  go_wp2_with fail
  refine (rall_any hT.out).mono ?_
  rintro e w1 ⟨B, d, rfl, hd, hr, hb1⟩
  rw [HTe.out] at hr hd ⊢
  obtain ⟨b, off, rfl, hbB, hcl⟩ := reads_fld hr hTp
  have HCL := Lib.hid hcl
  have hx1 := HX.out.below hb1 HX.out.lt
  have q0 := hx1.cell 0
  have q1 := hx1.cell 1
  simp only [List.getElem?_toArray, List.getElem?_cons_zero, List.getElem?_cons_succ] at q0 q1
  have HB := Lib.hid (HBX.out.trans (hb1.mono HBX.out.size))
  have hsw0 : w.heap.size < w1.heap.size := hx1.lt
  have Q0 := Lib.hid q0
  have Q1 := Lib.hid q1
  clear hcl hr hb1 hx1 q0 q1
  go_wp2
  go_loopw [7, 8, 9] (fun u v i wr => ∃ k : Nat, k ≤ T.length ∧ i = .int .i64 ((k : Int) - 1) ∧ u = .int .i64 ((bnd (isF f) T k : Nat) : Int) ∧ v = .int .i64 ((bnd (isN f) T k : Nat) : Int) ∧ Hid (Below w1.heap.size w1 wr)) (fun _ _ i _ => (intOf i + 1).toNat)
  case atStart => exact ⟨T.length, Nat.le_refl _, by go_num, by rw [bnd_end]; rfl, by rw [bnd_end]; rfl, Below.refl _ _⟩
  case round =>
    obtain ⟨k, hk, rfl, rfl, rfl, HW⟩ := hrel
    rcases Nat.eq_zero_or_pos k with rfl | hk0
    · rw [bnd_zero, bnd_zero]
      go_wp2
      go_ret2
      exact ⟨rfl, HB.out.trans (HW.out.mono HB.out.size)⟩
    · obtain ⟨i, rfl⟩ : ∃ i, k = i + 1 := ⟨k - 1, by omega⟩
      have hlt : i < T.length := by omega
      obtain ⟨e1, e2⟩ := HCL.out i hlt
      replace e1 := cell_behind HW.out e1
      replace e2 := cell_behind HW.out e2
      have q0 := cell_behind HW.out Q0.out
      have q1 := cell_behind HW.out Q1.out
      have hsr := Nat.lt_of_lt_of_le hsw0 HW.out.size
      have hbr := Nat.lt_of_lt_of_le hbB HW.out.size
      obtain ⟨F1, F2⟩ := bnd_step (p := isF f) hlt
      obtain ⟨N1, N2⟩ := bnd_step (p := isN f) hlt
      rw [isF_iff] at F1 F2
      rw [isN_iff] at N1 N2
      have hFb : bnd (isF f) T (i + 1) ≤ 1000 ∧ bnd (isN f) T (i + 1) ≤ 1000 := by
        have a1 := fnd_le (isF f) (T.drop (i + 1))
        have a2 := fnd_le (isN f) (T.drop (i + 1))
        simp only [List.length_drop] at a1 a2
        constructor <;> (unfold bnd; split <;> omega)
      obtain ⟨PF, hPF⟩ : ∃ PF, bnd (isF f) T (i + 1) = PF := ⟨_, rfl⟩
      obtain ⟨PN, hPN⟩ : ∃ PN, bnd (isN f) T (i + 1) = PN := ⟨_, rfl⟩
      rw [hPF] at F2 hFb ⊢
      rw [hPN] at N2 hFb ⊢
      replace F1 := Lib.hid F1
      replace F2 := Lib.hid F2
      replace N1 := Lib.hid N1
      replace N2 := Lib.hid N2
      have HPF := Lib.hid hPF
      have HPN := Lib.hid hPN
      clear hPF hPN
      generalize T[i] = x at *
      have ei : ((i + 1 : Nat) : Int) - 1 = (i : Int) := by omega
      rw [ei]
      have hii : ((i : Nat) : Int) < ((T.length : Nat) : Int) := by omega
      clear ei
      have HWI := Lib.hid (show i < T.length from hlt)
      by_cases hn : x.1 = f.1
      · have hn1 : (x.1 == f.1) = true := by simpa using hn
        by_cases hv : x.2 = f.2
        · have hv1 : (x.2 == f.2) = true := by simpa using hv
          have HR := Lib.hid (And.intro (F1.out ⟨hn, hv⟩) (N1.out hn))
          clear F1 F2 N1 N2
          go_wp2_with fail
          go_quiet (fail)
          have e1' : (wr.drewN nq).cell? ⟨b, off + i * 2, none⟩ = some (.string ⟨x.1.toArray⟩) := e1
          have q0' : (wr.drewN nq).cell? ⟨w.heap.size, 0, none⟩ = some (.string ⟨f.1.toArray⟩) := q0
          have hsr' : w.heap.size < (wr.drewN nq).heap.size := hsr
          have hbr' : b < (wr.drewN nq).heap.size := hbr
          have HW2 := Lib.hid (show Below w1.heap.size w1 (wr.drewN nq) from ⟨HW.out.os, HW.out.tape, HW.out.output, HW.out.size, HW.out.block⟩)
          clear e1 e2 q0 q1 hsr hbr HW
          generalize wr.drewN nq = w2 at *
          go_wp2_with fail
          go_quiet (fail)
          have HW3 := Lib.hid (fun n => show Below w1.heap.size w1 (w2.drewN n) from ⟨HW2.out.os, HW2.out.tape, HW2.out.output, HW2.out.size, HW2.out.block⟩)
          go_wp2
          go_roundw
          case rel => exact ⟨i, by omega, by go_num, by rw [HR.out.1] <;> go_num, by rw [HR.out.2] <;> go_num, HW3.out _⟩
          case measure => simp [intOf] <;> omega
        · have hv1 : (x.2 == f.2) = false := by simpa using hv
          have HR := Lib.hid (And.intro (F2.out (fun h => hv h.2)) (N1.out hn))
          clear F1 F2 N1 N2
          go_wp2_with fail
          go_quiet (fail)
          have e1' : (wr.drewN nq).cell? ⟨b, off + i * 2, none⟩ = some (.string ⟨x.1.toArray⟩) := e1
          have q0' : (wr.drewN nq).cell? ⟨w.heap.size, 0, none⟩ = some (.string ⟨f.1.toArray⟩) := q0
          have hsr' : w.heap.size < (wr.drewN nq).heap.size := hsr
          have hbr' : b < (wr.drewN nq).heap.size := hbr
          have HW2 := Lib.hid (show Below w1.heap.size w1 (wr.drewN nq) from ⟨HW.out.os, HW.out.tape, HW.out.output, HW.out.size, HW.out.block⟩)
          clear e1 e2 q0 q1 hsr hbr HW
          generalize wr.drewN nq = w2 at *
          go_wp2_with fail
          go_quiet (fail)
          have HW3 := Lib.hid (fun n => show Below w1.heap.size w1 (w2.drewN n) from ⟨HW2.out.os, HW2.out.tape, HW2.out.output, HW2.out.size, HW2.out.block⟩)
          go_wp2
          go_roundw
          case rel => exact ⟨i, by omega, by go_num, by rw [HR.out.1] <;> go_num, by rw [HR.out.2] <;> go_num, HW3.out _⟩
          case measure => simp [intOf] <;> omega
      · have hn1 : (x.1 == f.1) = false := by simpa using hn
        have HR := Lib.hid (And.intro (F2.out (fun h => hn h.1)) (N2.out hn))
        clear F1 F2 N1 N2
        go_wp2_with fail
        go_quiet (fail)
        have e1' : (wr.drewN nq).cell? ⟨b, off + i * 2, none⟩ = some (.string ⟨x.1.toArray⟩) := e1
        have q0' : (wr.drewN nq).cell? ⟨w.heap.size, 0, none⟩ = some (.string ⟨f.1.toArray⟩) := q0
        have hsr' : w.heap.size < (wr.drewN nq).heap.size := hsr
        have hbr' : b < (wr.drewN nq).heap.size := hbr
        have HW2 := Lib.hid (show Below w1.heap.size w1 (wr.drewN nq) from ⟨HW.out.os, HW.out.tape, HW.out.output, HW.out.size, HW.out.block⟩)
        clear e1 e2 q0 q1 hsr hbr HW
        generalize wr.drewN nq = w2 at *
        go_wp2_with fail
        go_quiet (fail)
        have HW3 := Lib.hid (fun n => show Below w1.heap.size w1 (w2.drewN n) from ⟨HW2.out.os, HW2.out.tape, HW2.out.output, HW2.out.size, HW2.out.block⟩)
        go_wp2
        go_roundw
        case rel => exact ⟨i, by omega, by go_num, by rw [HR.out.1] <;> go_num, by rw [HR.out.2] <;> go_num, HW3.out _⟩
        case measure => simp [intOf] <;> omega
end Go.Proofs.YtkbbkamnmdeagaaDoor
