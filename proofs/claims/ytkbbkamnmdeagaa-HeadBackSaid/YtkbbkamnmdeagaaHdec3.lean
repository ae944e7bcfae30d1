/-
  A coder that hears: Decode, where nothing is wrong. Condition: the bound on the bytes; the bytes lie below the coder's own blocks.
-/
import Derived.Test.YtkbbkamnmdeagaaHdec2
namespace Go.Proofs.Ytkbbkamnmdeagaa
open Go.RowKit
attribute [local go_sem ↓] Go.wp_at_zero Go.wp_at_succ

set_option maxRecDepth 100000 in
set_option maxHeartbeats 2000000 in
theorem cdecode_ok {w : World} {C h : Nat} {A : Option Addr} {c : Nat} {ys : List Fld} {my most : Nat} (H : CIn w C h A c ys my most false) (hmost : most ≤ 4096) (b : List UInt8) (LA : Option Addr) (n lc : Nat) (hn : n = b.length) (hcap : b.length ≤ lc) (hm : b.length ≤ 140737488355328) (B : Nat) (hB : B < w.heap.size) (hBl : ¬ iOwn C h A B) (hr : Reads w w.heap.size 1 LA b.length (bs b)) (hLA : ∀ ad, LA = some ad → ad.block = B)
    (ys' : List Fld) (my' : Nat) (L : List Fld) (hH : heard most ys my [] b = ⟨0, ys', my', L, 0⟩) :
    Calls Try.prog 20 #[.pointer (some ⟨C, 0, none⟩), .slice LA n lc] w fun e w' => ∃ A2 n2 c2, e = .returned (.tuple #[.slice A2 n2 c2, .nilIface]) ∧ n2 = L.length ∧ w'.ownsRow w.heap.size 40 2 (.slice A2 n2 c2) n2 (fvs L) ∧ InDone w w' C h A ys' my' most := by
  subst hn
  have hcd := cdec_ok H hmost b LA _ lc rfl hcap hm B hB hBl hr hLA ys' my' L hH
  obtain ⟨⟨g, Sv, hb⟩, ht⟩ := H
  have c4 := hb.cell 4
  have HCD := Lib.hid hcd
  have HC := Lib.hid hb.lt
  clear hb ht hr hH hcd hBl hLA
  go_enter Try.func20, Try.ntmps20
  go_wp2_with fail
  refine HCD.out.mono ?_
  rintro e w1 ⟨A2, n2, c2, rfl, rfl, hrow, A', c', hci, hkp, hfr⟩
  obtain ⟨⟨g2, Sv2, hb2⟩, ht2⟩ := hci
  have c4 := hb2.cell 4
  have f4 := hb2.frozen 4
  have hl4 := hb2.lt
  have k3 : Keep (fun k => k = C) w1 (w1.setCell ⟨C, 4, none⟩ (.bool false)) := (Keep.refl (fun k => k = C) w1).setCell (p := ⟨C, 4, none⟩) (.inl rfl) _
  have hCt : ¬ tOwn h A' C := by
    rintro (rfl | ⟨a, ha, he⟩)
    · exact Blk.ne_ hb2 ht2.blk (by decide) rfl
    · have := own_blk_ne ht2.own hb2 (by decide)
      rw [ha] at this
      exact this (by simp [Value.ownBlock, he])
  have hrow2 := ownRow_keep hrow k3 fun k hk he => own_blk_ne hrow hb2 (by decide) (he ▸ hk)
  have hb3 := hb2.set_ 4 (.bool false)
  have HD := Lib.hid (show InDone w (w1.setCell ⟨C, 4, none⟩ (.bool false)) C h A ys' my' most from ⟨A', c', ⟨⟨g2, Sv2, by simpa using hb3⟩, ht2.keep k3 fun k hk he => hCt (he ▸ hk)⟩, hkp.trans k3 fun i hi => .inl (.inl hi), hfr⟩)
  have HRW := Lib.hid hrow2
  clear hb2 ht2 k3 hrow2 hb3 hrow hkp hfr hCt
  go_wp2
  go_ret2
  exact ⟨A2, _, c2, rfl, rfl, HRW.out, HD.out⟩
end Go.Proofs.Ytkbbkamnmdeagaa
