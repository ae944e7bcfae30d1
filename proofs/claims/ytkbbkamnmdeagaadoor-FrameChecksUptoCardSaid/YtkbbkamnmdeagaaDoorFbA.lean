/-
  Words for the walk of the law FrameBack: a concrete read, Encode with its row, a frame's bytes cut off. No condition but the bounds.
-/
import Derived.Test.YtkbbkamnmdeagaaDoorFrmRR
import Derived.Test.YtkbbkamnmdeagaaDoorChk
import Derived.Test.YtkbbkamnmdeagaaDoorFbLaw
import Derived.Deep.CutRange
import Derived.Deep.LoopGhost
import Derived.Deep.CutBlock
namespace Go.Proofs.YtkbbkamnmdeagaaDoor
open Go.RowKit

theorem bnx {w w1 w2 : World} (h : Below w.heap.size w w1) (k : Below w1.heap.size w1 w2) : Below w.heap.size w w2 := h.trans (k.mono h.size)
theorem frV_cells (f : Frm) (A : Option Addr) (c : Nat) : frV f A c = .agg #[.int .i64 f.K, .int .i64 f.F, .int .i64 f.S, .slice A f.body.length c] := rfl
theorem same_num (a : Nat) (h : a ≠ 0) (w : World) (hE : ErrType w) :
    Calls Tryd.prog 15 #[.iface 113 (.int .i64 (a : Nat)), .int .i64 (a : Nat)] w fun r w' => r = .returned (.bool true) ∧ Below w.heap.size w w' := by
  have := same_true a w hE
  rwa [errV_pos h] at this
def factB : List UInt8 := [0, 0, 1, 0, 1, 0, 0, 0, 3, 9]
theorem fact_read : frmR factB = (⟨0, 1, 3, [9]⟩, 10, 0) := by kernel_rfl
theorem fact_cells : bs factB = [.int .u8 0, .int .u8 0, .int .u8 1, .int .u8 0, .int .u8 1, .int .u8 0, .int .u8 0, .int .u8 0, .int .u8 3, .int .u8 9] := by kernel_rfl
theorem fact_reads (w : World) (B : Nat) (hB : w.heap.size < B) : Reads (w.alloc (.cells #[.int .u8 0, .int .u8 0, .int .u8 1, .int .u8 0, .int .u8 1, .int .u8 0, .int .u8 0, .int .u8 0, .int .u8 3, .int .u8 9] 5)) B 1 (some ⟨w.heap.size, 0, none⟩) factB.length (bs factB) := by
  rw [fact_cells]
  have hb := Blk.new w 5 #[.int .u8 0, .int .u8 0, .int .u8 1, .int .u8 0, .int .u8 1, .int .u8 0, .int .u8 0, .int .u8 0, .int .u8 3, .int .u8 9]
  refine ⟨rfl, fun _ => ⟨_, rfl, hB, fun j u hu => ?_⟩⟩
  have h := hb.cell j
  rw [Addr.add_lit, Nat.zero_add, h]
  simpa using hu
/-- The concrete read. -/
theorem fact_any (w : World) (B : Nat) (hB : w.heap.size = B) :
    Calls Tryd.prog 31 #[.slice (some ⟨B, 0, none⟩) 10 10] (w.alloc (.cells #[.int .u8 0, .int .u8 0, .int .u8 1, .int .u8 0, .int .u8 1, .int .u8 0, .int .u8 0, .int .u8 0, .int .u8 3, .int .u8 9] 5)) fun e w' =>
      ∃ A c, e = .returned (.tuple #[.agg #[.int .i64 0, .int .i64 1, .int .i64 3, .slice A 1 c], .int .i64 10, .nilIface]) ∧ Below w.heap.size w w' := by
  subst hB
  refine (fread_any factB _ _ _ rfl (by decide) (by decide) _ (fact_reads w _ (by simp))).mono ?_
  rintro e w' ⟨v, rfl, A, c, rfl, hr, hb⟩
  refine ⟨A, c, ?_, ((Below.refl _ w).alloc (Nat.le_refl _) _).trans (hb.mono (by simp))⟩
  rw [fact_read, errV_zero]
  rfl
/-- Encode, whatever the frame. -/
theorem fenc_all (f : Frm) (A : Option Addr) (c : Nat) (hm : f.body.length ≤ 140737488355328) (w : World) (hr : Reads w w.heap.size 1 A f.body.length (bs f.body)) :
    Calls Tryd.prog 29 #[frV f A c] w fun e w' => ∃ A' c', e = .returned (.tuple #[.slice A' (frmL f).length c', errV (frmE f)]) ∧ Gave w w' (frmL f) A' c' ∧ (frmE f = 0 → w'.ownsRow w.heap.size 5 1 (.slice A' (frmL f).length c') (frmL f).length (bs (frmL f))) := by
  by_cases hE : frmE f = 0
  · refine (fenc_own f A c hE w hr).mono ?_
    rintro e w' ⟨A', c', h1, h2, h3⟩
    exact ⟨A', c', h1, h2, fun _ => h3⟩
  · refine (fenc_any f A c hm w hr).mono ?_
    rintro e w' ⟨A', c', h1, h2⟩
    exact ⟨A', c', h1, h2, fun h => absurd h hE⟩
/-- A frame's own bytes cut off. -/
theorem fread_cut {f : Frm} (hE : frmE f = 0) (k : Nat) (hk : k < (frmL f).length) (A : Option Addr) (c : Nat) (hc : k ≤ c) (w : World) (hr : Reads w w.heap.size 1 A (frmL f).length (bs (frmL f))) (hm : (frmL f).length ≤ 140737488355328) :
    Calls Tryd.prog 31 #[.slice A k c] w fun e w' => ∃ A' c', e = .returned (.tuple #[.agg #[.int .i64 0, .int .i64 0, .int .i64 0, .slice A' 0 c'], .int .i64 0, .iface 113 (.int .i64 8)]) ∧ Below w.heap.size w w' := by
  have hlk : ((frmL f).take k).length = k := by rw [List.length_take]; omega
  have h1 := hr.take (k := k) (by omega)
  rw [bs_take] at h1
  refine (fread_any ((frmL f).take k) A k c hlk.symm (by omega) (by omega) w (by rw [hlk]; exact h1)).mono ?_
  rintro e w' ⟨v, rfl, A', c', rfl, hr', hb⟩
  refine ⟨A', c', ?_, hb⟩
  rw [frm_cut hE k hk, errV_pos (by decide)]
  rfl
end Go.Proofs.YtkbbkamnmdeagaaDoor
