/-
  The frame that bytes begin with: the contract of the reference's ReadFrame; tollsame.Frame at one frame twice. Condition: the bound on the bytes.
-/
import Derived.Test.YtkbbkamnmdeagaaDoorFrmR
namespace Go.Proofs.YtkbbkamnmdeagaaDoor
open Go.RowKit

theorem rfr_end {w : World} {l mid : List UInt8} {x y N ID : Nat} {A2 : Option Addr} {c2 : Nat} (hall : frmR l = (⟨(x : Nat), (y : Nat), (ID : Nat), mid⟩, 9 + N, 0))
    (hr : Reads w w.heap.size 1 A2 mid.length (bs mid)) :
    Blk (w.alloc (.cells #[.int .i64 ((x : Nat) : Int), .int .i64 ((y : Nat) : Int), .int .i64 ((ID : Nat) : Int), .slice A2 mid.length c2] 50)).drew
      w.heap.size 50 #[.int .i64 ((x : Nat) : Int), .int .i64 ((y : Nat) : Int), .int .i64 ((ID : Nat) : Int), .slice A2 mid.length c2] ∧
    FrGave w (w.alloc (.cells #[.int .i64 ((x : Nat) : Int), .int .i64 ((y : Nat) : Int), .int .i64 ((ID : Nat) : Int), .slice A2 mid.length c2] 50)).drew
      (.agg #[.int .i64 ((x : Nat) : Int), .int .i64 ((y : Nat) : Int), .int .i64 ((ID : Nat) : Int), .slice A2 mid.length c2]) l := by
  have hb0 : Below w.heap.size w (w.alloc (.cells #[.int .i64 ((x : Nat) : Int), .int .i64 ((y : Nat) : Int), .int .i64 ((ID : Nat) : Int), .slice A2 mid.length c2] 50)).drew := ((Below.refl w.heap.size w).alloc (Nat.le_refl _) _).drew
  exact ⟨(Blk.new w _ _).drew, A2, c2, by rw [hall]; rfl, by rw [hall]; exact (hr.below hb0).more hb0.size, hb0⟩

set_option maxRecDepth 100000 in
set_option maxHeartbeats 4000000 in
theorem rfread_any (l : List UInt8) (A : Option Addr) (n c : Nat) (hn : n = l.length) (hcap : l.length ≤ c) (hm : l.length ≤ 140737488355328) (w : World) (hr : Reads w w.heap.size 1 A l.length (bs l)) :
    Calls Tryd.prog 30 #[.slice A n c] w fun e w' => ∃ v, e = .returned (.tuple #[v, .int .i64 ((frmR l).2.1 : Nat), .int .i64 ((frmR l).2.2 : Nat)]) ∧ FrGave w w' v l := by
  subst hn
  by_cases h9 : l.length < 9
  · rw [frmR_short h9]
    have HZ := Lib.hid (frgave_zero (w := w) (frmR_short h9))
    clear hr
    go_enter Tryd.func30, Tryd.ntmps30
    go_wp2
    refine bodyPost_ret (results_cell_tmp2 rfl _ _ w.heap.size _ _ _ rfl (Blk.new w _ _) Tryd.underlying50 rfl frame_size) rfl ?_
    exact ⟨_, rfl, HZ.out⟩
  have hb0 := (Below.refl w.heap.size w).alloc (Nat.le_refl _) (.cells #[.int .i64 0, .int .i64 0, .int .i64 0, .slice none 0 0] 50)
  have hr0 := (hr.below hb0).more hb0.size
  have r3 := hr0.take (k := 3) (by omega)
  rw [bs_take] at r3
  have l3 : (l.take 3).length = 3 := by rw [List.length_take]; omega
  have l4 : ((l.drop 5).take 4).length = 4 := by rw [List.length_take, List.length_drop]; omega
  obtain ⟨b, off, x, y, rfl, hbB, e3, e4, hx, hy, hx2, hy2⟩ := frm_cells hr0 (by omega)
  have r4 := reads_mid (c := c) hr0 (at_ := 5) (n := 4) (by omega) hcap
  rw [if_neg (by omega)] at r4
  have r3' : Reads (w.alloc (.cells #[.int .i64 0, .int .i64 0, .int .i64 0, .slice none 0 0] 50)) (w.alloc (.cells #[.int .i64 0, .int .i64 0, .int .i64 0, .slice none 0 0] 50)).heap.size 1 (some ⟨b, off, none⟩) (l.take 3).length (bs (l.take 3)) := by
    rw [l3]
    exact r3
  have r4' : Reads (w.alloc (.cells #[.int .i64 0, .int .i64 0, .int .i64 0, .slice none 0 0] 50)) (w.alloc (.cells #[.int .i64 0, .int .i64 0, .int .i64 0, .slice none 0 0] 50)).heap.size 1 (some ⟨b, off + 5, none⟩) ((l.drop 5).take 4).length (bs ((l.drop 5).take 4)) := by
    rw [l4]
    exact r4
  have HR3 := Lib.hid r3'
  have HR4 := Lib.hid r4'
  have L3 := Lib.hid l3
  have L4 := Lib.hid l4
  have HBB := Lib.hid hb0
  have hc5 : ¬ c = 5 := by omega
  have hc9 : 9 ≤ c := by omega
  have hc3 : 3 ≤ c := by omega
  clear r3 r4 r3' r4' l3 l4 hb0
  by_cases h1024 : 1024 < beNat (l.take 3)
  · rw [frmR_full h9 h1024]
    have HZ := Lib.hid (frgave_zero (w := w) (frmR_full h9 h1024))
    have H1 := Lib.hid (show (1024 : Int) < ((beNat (l.take 3) : Nat) : Int) by omega)
    clear hr hr0 e3 e4 hx hy h1024
    go_enter Tryd.func30, Tryd.ntmps30
    go_wp2_with fail
    refine (rword_any (l.take 3) (by rw [L3.out]; omega) _ _ _ L3.out.symm _ _ HR3.out).mono ?_
    rintro e w' ⟨rfl, rfl⟩
    go_wp2_with fail
    refine (rword_any ((l.drop 5).take 4) (by rw [L4.out]; omega) _ _ _ L4.out.symm _ _ HR4.out).mono ?_
    rintro e w' ⟨rfl, rfl⟩
    have h1 := H1.out
    go_wp2
    refine bodyPost_ret (results_cell_tmp2 rfl _ _ w.heap.size _ _ _ rfl (Blk.new w _ _) Tryd.underlying50 rfl frame_size) rfl ?_
    exact ⟨_, rfl, HZ.out⟩
  by_cases hov : 2147483647 < beNat ((l.drop 5).take 4)
  · rw [frmR_over h9 h1024 hov]
    have HZ := Lib.hid (frgave_zero (w := w) (frmR_over h9 h1024 hov))
    have H1 := Lib.hid (show ¬ (1024 : Int) < ((beNat (l.take 3) : Nat) : Int) by omega)
    have H2 := Lib.hid (show (2147483647 : Int) < ((beNat ((l.drop 5).take 4) : Nat) : Int) by omega)
    clear hr hr0 e3 e4 hx hy h1024 hov
    go_enter Tryd.func30, Tryd.ntmps30
    go_wp2_with fail
    refine (rword_any (l.take 3) (by rw [L3.out]; omega) _ _ _ L3.out.symm _ _ HR3.out).mono ?_
    rintro e w' ⟨rfl, rfl⟩
    go_wp2_with fail
    refine (rword_any ((l.drop 5).take 4) (by rw [L4.out]; omega) _ _ _ L4.out.symm _ _ HR4.out).mono ?_
    rintro e w' ⟨rfl, rfl⟩
    have h1 := H1.out
    have h2 := H2.out
    go_wp2
    refine bodyPost_ret (results_cell_tmp2 rfl _ _ w.heap.size _ _ _ rfl (Blk.new w _ _) Tryd.underlying50 rfl frame_size) rfl ?_
    exact ⟨_, rfl, HZ.out⟩
  by_cases hmo : l.length - 9 < beNat (l.take 3)
  · rw [frmR_more h9 h1024 hov hmo]
    have HZ := Lib.hid (frgave_zero (w := w) (frmR_more h9 h1024 hov hmo))
    have H1 := Lib.hid (show ¬ (1024 : Int) < ((beNat (l.take 3) : Nat) : Int) by omega)
    have H2 := Lib.hid (show ¬ (2147483647 : Int) < ((beNat ((l.drop 5).take 4) : Nat) : Int) by omega)
    have H3 := Lib.hid (show ((l.length : Nat) : Int) - 9 < ((beNat (l.take 3) : Nat) : Int) by omega)
    clear hr hr0 e3 e4 hx hy h1024 hov hmo
    go_enter Tryd.func30, Tryd.ntmps30
    go_wp2_with fail
    refine (rword_any (l.take 3) (by rw [L3.out]; omega) _ _ _ L3.out.symm _ _ HR3.out).mono ?_
    rintro e w' ⟨rfl, rfl⟩
    go_wp2_with fail
    refine (rword_any ((l.drop 5).take 4) (by rw [L4.out]; omega) _ _ _ L4.out.symm _ _ HR4.out).mono ?_
    rintro e w' ⟨rfl, rfl⟩
    have h1 := H1.out
    have h2 := H2.out
    have h3 := H3.out
    go_wp2
    refine bodyPost_ret (results_cell_tmp2 rfl _ _ w.heap.size _ _ _ rfl (Blk.new w _ _) Tryd.underlying50 rfl frame_size) rfl ?_
    exact ⟨_, rfl, HZ.out⟩
  · have hall := frmR_all h9 h1024 hov hmo
    rw [hx, hy] at hall
    have hlen : ((l.drop 9).take (beNat (l.take 3))).length = beNat (l.take 3) := by
      rw [List.length_take, List.length_drop]
      omega
    obtain ⟨b', off', he, _⟩ := hr.form (by omega)
    cases he
    have hmid := reads_mid (c := c) hr (at_ := 9) (n := beNat (l.take 3)) (by omega) hcap
    obtain ⟨A1, hA1⟩ : ∃ A1, (if c = 9 then some (⟨b, off, none⟩ : Addr) else some ⟨b, off + 9, none⟩) = A1 := ⟨_, rfl⟩
    rw [hA1] at hmid
    obtain ⟨mid, hmd⟩ : ∃ mid, (l.drop 9).take (beNat (l.take 3)) = mid := ⟨_, rfl⟩
    rw [hmd] at hmid hlen hall
    obtain ⟨N, hN⟩ : ∃ N, beNat (l.take 3) = N := ⟨_, rfl⟩
    rw [hN] at hmid hlen hmo h1024 hall
    obtain ⟨ID, hID⟩ : ∃ ID, beNat ((l.drop 5).take 4) = ID := ⟨_, rfl⟩
    rw [hID] at hall hov
    rw [← hlen] at hmid
    have HEND := Lib.hid (rfr_end (c2 := c - 9) hall hmid)
    rw [show (frmR l).2.1 = 9 + N by rw [hall], show (frmR l).2.2 = 0 by rw [hall]]
    have hwx : IntKind.i64.wrap ((x : Nat) : Int) = ((x : Nat) : Int) := by rw [IntKind.wrap_i64]; omega
    have hwy : IntKind.i64.wrap ((y : Nat) : Int) = ((y : Nat) : Int) := by rw [IntKind.wrap_i64]; omega
    have HN := Lib.hid hN
    have HID := Lib.hid hID
    have HL := Lib.hid hlen
    have H1 := Lib.hid (show ¬ (1024 : Int) < ((N : Nat) : Int) by omega)
    have H2 := Lib.hid (show ¬ (2147483647 : Int) < ((ID : Nat) : Int) by omega)
    have H3 := Lib.hid (show ¬ ((l.length : Nat) : Int) - 9 < ((N : Nat) : Int) by omega)
    have h3 : 9 + N ≤ c := by omega
    have hN2 : N ≤ 1024 := by omega
    have E3 := Lib.hid e3
    have E4 := Lib.hid e4
    clear hall hmd hx hy hmid hN hlen hID hr hr0 e3 e4 h1024 hov hmo
    go_enter Tryd.func30, Tryd.ntmps30
    go_wp2_with fail
    refine (rword_any (l.take 3) (by rw [L3.out]; omega) _ _ _ L3.out.symm _ _ HR3.out).mono ?_
    rintro e w' ⟨rfl, rfl⟩
    rw [HN.out]
    go_wp2_with fail
    refine (rword_any ((l.drop 5).take 4) (by rw [L4.out]; omega) _ _ _ L4.out.symm _ _ HR4.out).mono ?_
    rintro e w' ⟨rfl, rfl⟩
    rw [HID.out]
    have h1 := H1.out
    have h2 := H2.out
    have h4 := H3.out
    have e3 := E3.out
    have e4 := E4.out
    go_wp2_with fail
    have hi3 : (3 : Int) < ((l.length : Nat) : Int) := by omega
    have hi4 : (4 : Int) < ((l.length : Nat) : Int) := by omega
    have hs9 : (9 : Int) + ((N : Nat) : Int) ≤ ((c : Nat) : Int) := by omega
    have hs0 : (0 : Int) ≤ ((N : Nat) : Int) := by omega
    have hs90 : (0 : Int) ≤ 9 + ((N : Nat) : Int) := by omega
    have hsm : (9 : Int) ≤ max (9 + ((N : Nat) : Int)) 0 := by omega
    have hsn : ((9 : Int) + ((N : Nat) : Int)).toNat - 9 = mid.length := by rw [HL.out]; omega
    have hsw : IntKind.i64.wrap ((9 : Int) + ((N : Nat) : Int)) = 9 + ((N : Nat) : Int) := by rw [IntKind.wrap_i64]; omega
    go_region_law (fail)
    all_goals go_wp2
    all_goals
      refine bodyPost_ret (results_cell_tmp2 rfl _ _ w.heap.size _ _ _ rfl HEND.out.1 Tryd.underlying50 rfl frame_size2) rfl ?_
      exact ⟨_, rfl, HEND.out.2⟩

set_option maxRecDepth 100000 in
set_option maxHeartbeats 4000000 in
theorem same_frame (f : Frm) (A1 : Option Addr) (c1 : Nat) (A2 : Option Addr) (c2 : Nat) (w : World) (h1 : Reads w w.heap.size 1 A1 f.body.length (bs f.body)) (h2 : Reads w w.heap.size 1 A2 f.body.length (bs f.body)) :
    Calls Tryd.prog 32 #[frV f A1 c1, frV f A2 c2] w fun e w' => e = .returned (.bool true) ∧ Below w.heap.size w w' := by
  obtain ⟨K, F, S, body⟩ := f
  unfold frV
  dsimp only at h1 h2 ⊢
  have hb0 := (Below.refl w.heap.size w).alloc (Nat.le_refl _) (.cells #[.int .i64 K, .int .i64 F, .int .i64 S, .slice A1 body.length c1] 50)
  have hb1 := hb0.alloc hb0.size (.cells #[.int .i64 K, .int .i64 F, .int .i64 S, .slice A2 body.length c2] 50)
  have k1 := run_str (h1.below hb1) c1
  have k2 := run_str (h2.below hb1) c2
  have HB := Lib.hid hb1
  clear hb0 hb1 h1 h2
  go_enter Tryd.func32, Tryd.ntmps32
  go_wp2
  go_ret
  exact ⟨rfl, HB.out⟩
end Go.Proofs.YtkbbkamnmdeagaaDoor
