/-
  The reference's table behind a pointer: its words; Size, Always, Weight, Shrink, Add, All, Find. Condition: the fields' texts' lengths.
-/
import Derived.Test.YtkbbkamnmdeagaaDoorFind
namespace Go.Proofs.YtkbbkamnmdeagaaDoor
open Go.RowKit
attribute [local go_sem ↓] Go.wp_at_zero Go.wp_at_succ

/-- The reference's table: its block; what it reads as. -/
structure RTab (w : World) (g : Nat) (A : Option Addr) (c : Nat) (xs : List Fld) (mx : Nat) : Prop where
  blk : Blk w g 83 #[.slice A xs.length c, .int .i64 (mx : Nat)]
  cap : xs.length ≤ c
  reads : Reads w w.heap.size 2 A xs.length (fvs xs)
  wt : wt xs ≤ 4096
  mx : mx ≤ 4096
  ok : ∀ f ∈ xs, fOk f
section
variable {w w' : World} {g c mx : Nat} {A : Option Addr} {xs : List Fld}
theorem RTab.below (h : RTab w g A c xs mx) (hb : Below w.heap.size w w') : RTab w' g A c xs mx :=
  ⟨h.blk.below hb h.blk.lt, h.cap, (h.reads.below hb).more hb.size, h.wt, h.mx, h.ok⟩
theorem RTab.len (h : RTab w g A c xs mx) : xs.length ≤ 128 := by
  have h1 := wt_len xs
  have h2 := h.wt
  omega
end

set_option maxRecDepth 100000 in
set_option maxHeartbeats 1000000 in
theorem rsize_any (f : Fld) (hf : fOk f) (w : World) :
    Calls Tryd.prog 86 #[.agg #[.string ⟨f.1.toArray⟩, .string ⟨f.2.toArray⟩]] w fun e w' => e = .returned (.int .i64 (fsz f : Nat)) ∧ Below w.heap.size w w' := by
  obtain ⟨h1, h2⟩ := hf
  go_enter Tryd.func86, Tryd.ntmps86
  go_wp2
  go_ret
  refine ⟨?_, (Below.refl _ _).alloc (Nat.le_refl _) _⟩
  simp [fsz]

set_option maxRecDepth 100000 in
set_option maxHeartbeats 4000000 in
theorem ralways_any (w : World) :
    Calls Tryd.prog 89 #[] w fun e w' => ∃ g, e = .returned (.slice (some ⟨g, 0, none⟩) 12 12) ∧ w'.ownsRow w.heap.size 86 2 (.slice (some ⟨g, 0, none⟩) 12 12) 12 (fvs alw) ∧ Below w.heap.size w w' := by
  go_enter Tryd.func89, Tryd.ntmps89
  go_wp2
  go_ret
  refine ⟨_, rfl, ?_, ?_⟩
  · have h : ∀ (W : World) (g : Nat), W.heap.size = g → w.heap.size ≤ g → (W.alloc (.cells (fvs alw).toArray 86)).ownsRow w.heap.size 86 2 (.slice (some ⟨g, 0, none⟩) 12 12) 12 (fvs alw) := by
      rintro W g rfl hg
      exact World.ownsRow_lit W (fvs alw).toArray 12 hg (by decide) rfl
    exact h _ _ (by simp) (by omega)
  · repeat (first | exact Below.refl _ _ | refine Below.alloc ?_ (by simp <;> omega) _)

set_option maxRecDepth 100000 in
set_option maxHeartbeats 4000000 in
theorem rweight_any (l : List Fld) (hf : ∀ f ∈ l, fOk f) (hw : wt l ≤ 140737488355328) (A : Option Addr) (n c : Nat) (hn : n = l.length) (w : World) (hr : Reads w w.heap.size 2 A l.length (fvs l)) :
    Calls Tryd.prog 54 #[.slice A n c] w fun e w' => e = .returned (.int .i64 ((wt l : Nat) : Int)) ∧ Below w.heap.size w w' := by
  subst hn
  have HR := Lib.hid hr
  have HF := Lib.hid hf
  have hl := wt_len l
  clear hr hf
  go_enter Tryd.func54, Tryd.ntmps54
  go_wp2
  obtain ⟨wo, hwo⟩ : ∃ wo : World, w = wo := ⟨_, rfl⟩
  go_loopw [3, 4] (fun x i wr => ∃ k : Nat, k ≤ l.length ∧ i = .int .i64 (k : Int) ∧ x = .int .i64 ((wt (l.take k) : Nat) : Int) ∧ Hid (Below w.heap.size w wr)) (fun _ i _ => l.length - (intOf i).toNat)
  case atStart => exact ⟨0, Nat.zero_le _, rfl, rfl, Below.refl _ _⟩
  case round =>
    obtain ⟨k, hk, rfl, rfl, HB⟩ := hrel
    have hle := wt_take_le l k
    by_cases hlt : k < l.length
    · have hs := wt_take_succ l k hlt
      have hle2 := wt_take_le l (k + 1)
      obtain ⟨b, off, rfl, hbB, hcl⟩ := reads_fld (HR.out.below HB.out) (by omega)
      obtain ⟨e0, e1⟩ := hcl k hlt
      have hfk := Lib.hid (HF.out l[k] (List.getElem_mem hlt))
      have HS := Lib.hid hs
      clear hcl hs
      generalize l[k] = f at *
      generalize wt (l.take k) = W at *
      have hW : fsz f + W ≤ 140737488355328 := by have := HS.out; omega
      go_wp2_with (go_at_call 86; refine (rsize_any f hfk.out _).mono ?_; rintro e w1 ⟨rfl, hb1⟩)
      go_roundw
      case rel => exact ⟨k + 1, by omega, by go_num, by rw [HS.out]; go_num, HB.out.trans (hb1.mono HB.out.size)⟩
      case measure => simp [intOf]; omega
    · have hke : l.take k = l := List.take_of_length_le (by omega)
      rw [hke] at hle ⊢
      go_wp2
      go_ret
      exact ⟨rfl, HB.out⟩
end Go.Proofs.YtkbbkamnmdeagaaDoor
