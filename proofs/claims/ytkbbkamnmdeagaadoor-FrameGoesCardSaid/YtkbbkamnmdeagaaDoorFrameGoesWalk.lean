/-
  The walk of the law FrameGoes: it returns true, and nothing that was in memory turns. Condition: errors.errorType reads as laid.
-/
import Derived.Test.YtkbbkamnmdeagaaDoorFrmRR
import Derived.Test.YtkbbkamnmdeagaaDoorFrmRef
namespace Go.Proofs.YtkbbkamnmdeagaaDoor
open Go.RowKit

theorem bnx {w w1 w2 : World} (h : Below w.heap.size w w1) (k : Below w1.heap.size w1 w2) : Below w.heap.size w w2 := h.trans (k.mono h.size)
theorem frV_cells (f : Frm) (A : Option Addr) (c : Nat) : frV f A c = .agg #[.int .i64 f.K, .int .i64 f.F, .int .i64 f.S, .slice A f.body.length c] := rfl

set_option maxRecDepth 100000 in
set_option maxHeartbeats 4000000 in
theorem frameGoes_walk (f : Frm) (A : Option Addr) (c : Nat) (l : List UInt8) (B : Option Addr) (d : Nat) (w : World) (hE : ErrType w) (hf : f.body.length ≤ 140737488355328) (hrf : Reads w w.heap.size 1 A f.body.length (bs f.body))
    (hcap : l.length ≤ d) (hm : l.length ≤ 140737488355328) (hr : Reads w w.heap.size 1 B l.length (bs l)) :
    Calls Tryd.prog 7 #[frV f A c, .slice B l.length d] w fun e w' => e = .returned (.bool true) ∧ Below w.heap.size w w' := by
  have hb0 := (Below.refl w.heap.size w).alloc (Nat.le_refl _) (.cells #[.int .i64 f.K, .int .i64 f.F, .int .i64 f.S, .slice A f.body.length c] 50)
  have hB0 : Blk (w.alloc (.cells #[.int .i64 f.K, .int .i64 f.F, .int .i64 f.S, .slice A f.body.length c] 50)) w.heap.size 50 #[.int .i64 f.K, .int .i64 f.F, .int .i64 f.S, .slice A f.body.length c] := Blk.new w _ _
  have HB0 := Lib.hid hB0
  have HBB := Lib.hid hb0
  have HR := Lib.hid hr
  have HRF := Lib.hid hrf
  clear hb0 hB0 hr hrf
  go_enter Tryd.func7, Tryd.ntmps7
  unfold frV
  go_wp2_with fail
  refine (rfenc_any f A c hf _ ((HRF.out.below HBB.out).more HBB.out.size)).mono ?_
  rintro e w1 ⟨A1, c1, rfl, hg1⟩
  have hblk1 := HB0.out.below hg1.2.2 HB0.out.lt
  have q0 := hblk1.cell 0
  have q1 := hblk1.cell 1
  have q2 := hblk1.cell 2
  have q3 := hblk1.cell 3
  have HB1 := Lib.hid (HBB.out.trans (hg1.2.2.mono HBB.out.size))
  have HG1 := Lib.hid hg1
  clear hblk1 hg1
  go_wp2_with fail
  refine (fenc_any f A c hf w1 ((HRF.out.below HB1.out).more HB1.out.size)).mono ?_
  rintro e w2 ⟨A2, c2, rfl, hg2⟩
  have HB2 := Lib.hid (HB1.out.trans (hg2.2.2.mono HB1.out.size))
  have HG2 := Lib.hid hg2
  clear hg2 q0 q1 q2 q3
  go_wp2_with fail
  refine (same_true _ w2 (hE.next HB2.out)).mono ?_
  rintro e w3 ⟨rfl, hb3⟩
  have HB3 := Lib.hid (HB2.out.trans (hb3.mono HB2.out.size))
  have Hb3 := Lib.hid hb3
  clear hb3
  go_wp2_with fail
  refine (rfread_any l B _ d rfl hcap hm w3 ((HR.out.below HB3.out).more HB3.out.size)).mono ?_
  rintro e w4 ⟨v4, rfl, A4, c4, rfl, hr4, hb4⟩
  obtain ⟨G, hG⟩ : ∃ G, (frmR l).1 = G := ⟨_, rfl⟩
  rw [hG] at hr4 ⊢
  have HG := Lib.hid hG
  have HB4 := Lib.hid (HB3.out.trans (hb4.mono HB3.out.size))
  have Hb4 := Lib.hid hb4
  have HR4 := Lib.hid hr4
  rw [frV_cells]
  obtain ⟨U, hU⟩ : ∃ U, (frmR l).2.1 = U := ⟨_, rfl⟩
  obtain ⟨E, hE2⟩ : ∃ E, (frmR l).2.2 = E := ⟨_, rfl⟩
  rw [hU, hE2]
  have HU := Lib.hid hU
  have HE2 := Lib.hid hE2
  clear hb4 hr4 hG hU hE2
  have hb5 := (Below.refl w4.heap.size w4).alloc (Nat.le_refl _) (.cells #[.int .i64 G.K, .int .i64 G.F, .int .i64 G.S, .slice A4 G.body.length c4] 50)
  have hB5 : Blk (w4.alloc (.cells #[.int .i64 G.K, .int .i64 G.F, .int .i64 G.S, .slice A4 G.body.length c4] 50)) w4.heap.size 50 #[.int .i64 G.K, .int .i64 G.F, .int .i64 G.S, .slice A4 G.body.length c4] := Blk.new w4 _ _
  have HB5 := Lib.hid (HB4.out.trans (hb5.mono HB4.out.size))
  have HK5 := Lib.hid hB5
  have Hb5 := Lib.hid hb5
  clear hb5 hB5
  go_wp2_with fail
  generalize (w4.alloc (.cells #[.int .i64 G.K, .int .i64 G.F, .int .i64 G.S, .slice A4 G.body.length c4] 50)) = w5 at *
  refine (fread_any l B _ d rfl hcap hm w5 ((HR.out.below HB5.out).more HB5.out.size)).mono ?_
  rintro e w6 ⟨v6, rfl, A6, c6, rfl, hr6, hb6⟩
  rw [HG.out] at hr6 ⊢
  rw [HU.out, HE2.out, frV_cells]
  have hk6 := HK5.out.below hb6 HK5.out.lt
  have hb7 := hb6.alloc hb6.size (.cells #[.int .i64 G.K, .int .i64 G.F, .int .i64 G.S, .slice A6 G.body.length c6] 50)
  have hB7 : Blk (w6.alloc (.cells #[.int .i64 G.K, .int .i64 G.F, .int .i64 G.S, .slice A6 G.body.length c6] 50)) w6.heap.size 50 #[.int .i64 G.K, .int .i64 G.F, .int .i64 G.S, .slice A6 G.body.length c6] := Blk.new w6 _ _
  have HK7 := Lib.hid (hk6.alloc (.cells #[.int .i64 G.K, .int .i64 G.F, .int .i64 G.S, .slice A6 G.body.length c6] 50))
  have HL7 := Lib.hid hB7
  have HR7 := Lib.hid (show Reads (w6.alloc (.cells #[.int .i64 G.K, .int .i64 G.F, .int .i64 G.S, .slice A6 G.body.length c6] 50)) w6.heap.size 1 A6 G.body.length (bs G.body) from hr6.alloc (Nat.le_refl _) _)
  have HB7 := Lib.hid (HB5.out.trans (hb7.mono HB5.out.size))
  have Hb7 := Lib.hid hb7
  have hs67 : w6.heap.size ≤ (w6.alloc (.cells #[.int .i64 G.K, .int .i64 G.F, .int .i64 G.S, .slice A6 G.body.length c6] 50)).heap.size := by simp
  clear hr6 hb6 hb7 hB7 hk6
  go_wp2_with fail
  generalize (w6.alloc (.cells #[.int .i64 G.K, .int .i64 G.F, .int .i64 G.S, .slice A6 G.body.length c6] 50)) = w7 at *
  refine (same_true _ w7 (hE.next HB7.out)).mono ?_
  rintro e w8 ⟨rfl, hb8⟩
  have hk8 := HK7.out.below hb8 HK7.out.lt
  have hl8 := HL7.out.below hb8 HL7.out.lt
  have p0 := hk8.cell 0
  have p1 := hk8.cell 1
  have p2 := hk8.cell 2
  have p3 := hk8.cell 3
  have r0 := hl8.cell 0
  have r1 := hl8.cell 1
  have r2 := hl8.cell 2
  have r3 := hl8.cell 3
  have HB8 := Lib.hid (HB7.out.trans (hb8.mono HB7.out.size))
  have hs8 := hb8.size
  have hs57 := Hb7.out.size
  have hs45 := Hb5.out.size
  have hr8a := ((((HR4.out.below Hb5.out).more hs45).below Hb7.out).more hs57).below hb8 |>.more hs8
  have hr8b := ((HR7.out.more hs67).below hb8).more hs8
  have HR8A := Lib.hid hr8a
  have HR8B := Lib.hid hr8b
  have Hb8 := Lib.hid hb8
  clear hk8 hl8 hb8 hr8a hr8b
  go_wp2_with fail
  refine (same_frame G A6 c6 A4 c4 w8 HR8B.out HR8A.out).mono ?_
  rintro e w9 ⟨rfl, hb9⟩
  have b23 := bnx Hb3.out (bnx Hb4.out (bnx Hb5.out (bnx Hb7.out (bnx Hb8.out hb9))))
  have b13 := bnx HG2.out.2.2 b23
  have k1 := run_str ((HG1.out.2.1.below b13).more b13.size) c1
  have k2 := run_str ((HG2.out.2.1.below b23).more b23.size) c2
  have HB9 := Lib.hid (HB8.out.trans (hb9.mono HB8.out.size))
  clear hb9 b23 b13
  go_wp2
  go_ret
  exact ⟨by simp, HB9.out⟩
end Go.Proofs.YtkbbkamnmdeagaaDoor
