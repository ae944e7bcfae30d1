/-
  The frame that bytes begin with: the contracts of frame.Read and of the reference's ReadFrame. Condition: the bound on the bytes.
-/
import Derived.Test.YtkbbkamnmdeagaaDoorFrmE
import Derived.Deep.RegionLaw
import Derived.Deep.DrawnRows
import Derived.Deep.QuietTactic
import Derived.BigQuiet
import Derived.Deep.AppendLies
namespace Go.Proofs.YtkbbkamnmdeagaaDoor
open Go.RowKit

theorem frm_cells {w : World} {B : Nat} {A : Option Addr} {l : List UInt8} (h : Reads w B 1 A l.length (bs l)) (h9 : 9 ≤ l.length) :
    ∃ b off x y, A = some ⟨b, off, none⟩ ∧ b < B ∧ w.cell? ⟨b, off + 3, none⟩ = some (.int .u8 ((x : Nat) : Int)) ∧ w.cell? ⟨b, off + 4, none⟩ = some (.int .u8 ((y : Nat) : Int)) ∧ (l.getD 3 0).toNat = x ∧ (l.getD 4 0).toNat = y ∧ x < 256 ∧ y < 256 := by
  obtain ⟨b, off, rfl, hb, hc⟩ := h.form (by omega)
  have e3 := hc 3 _ (bs_at l (show 3 < l.length by omega))
  have e4 := hc 4 _ (bs_at l (show 4 < l.length by omega))
  refine ⟨b, off, _, _, rfl, hb, ?_, ?_, rfl, rfl, (l.getD 3 0).toNat_lt, (l.getD 4 0).toNat_lt⟩
  · rw [e3, List.getD_eq_getElem?_getD, List.getElem?_eq_getElem (show 3 < l.length by omega)]
    rfl
  · rw [e4, List.getD_eq_getElem?_getD, List.getElem?_eq_getElem (show 4 < l.length by omega)]
    rfl
theorem results_cell_tmp2 {P : Program} {fn : Func} {p u v : Tmp} {ty : TypeId} (h : fn.results = #[.cell p ty, .tmp u, .tmp v]) (tmps : Array Value) (w : World) (g : Nat) (t : TypeId) (cs : Array Value) (d : TypeDesc)
    (hp : tmps.getD p undef = .pointer (some ⟨g, 0, none⟩)) (hg : Blk w g t cs)
    (hu : P.underlying ty = some d) (hd : (match d with | .struct _ | .array _ _ => true | _ => false) = true) (hi : (P.info? ty).map (·.size) = some cs.size) :
    (results fn tmps).run P w = .ok (.tuple #[.agg cs, tmps.getD u undef, tmps.getD v undef]) w := by
  have hp' : tmps[p]?.getD undef = .pointer (some ⟨g, 0, none⟩) := by simpa using hp
  simp [results, h, hp', asAddr, run_loadVar_row w g t ty cs (0, 0) d hg hu hd hi]
theorem cell_drewF {w w1 : World} (hb : Below w.drew.heap.size w.drew w1) {p : Addr} {v : Value} (h : w.cell? p = some v) : w1.cell? p = some v := (hb.cell (World.block_lt_of_cell? w p h)).trans h
/-- A frame read: the value, the words that its call hands back. -/
def FrGave (w w' : World) (v : Value) (l : List UInt8) : Prop := ∃ A c, v = frV (frmR l).1 A c ∧ Reads w' w'.heap.size 1 A (frmR l).1.body.length (bs (frmR l).1.body) ∧ Below w.heap.size w w'

theorem frgave_zero {w : World} {l : List UInt8} {N E : Nat} (h : frmR l = (frm0, N, E)) : FrGave w (w.alloc (.cells #[.int .i64 0, .int .i64 0, .int .i64 0, .slice none 0 0] 50)) (.agg #[.int .i64 0, .int .i64 0, .int .i64 0, .slice none 0 0]) l :=
  ⟨none, 0, by rw [h]; rfl, by rw [h]; exact Reads.none_, (Below.refl _ _).alloc (Nat.le_refl _) _⟩
theorem own_setF {w : World} {B size n : Nat} {e : TypeId} {A : Option Addr} {c : Nat} {xs : List Value} (h : w.ownsRow B e size (.slice A n c) n xs) {p : Addr} (hp : ∀ a, A = some a → a.block ≠ p.block) (u : Value) : (w.setCell p u).ownsRow B e size (.slice A n c) n xs := by
  refine ⟨h.1, ?_⟩
  rcases h.2 with h0 | ⟨g, cap, cur, hv, hB, hh, hr⟩
  · exact .inl h0
  · refine .inr ⟨g, cap, cur, hv, hB, ?_, hr⟩
    injection hv with hA
    exact (Below.heap_setCell w p u g (hp _ hA)).trans hh
theorem fr_end {w W0 w2 : World} {l mid : List UInt8} {x y N ID : Nat} {A2 : Option Addr} {c2 : Nat} (hall : frmR l = (⟨(x : Nat), (y : Nat), (ID : Nat), mid⟩, 9 + N, 0))
    (hB : Blk W0 w.heap.size 50 #[.int .i64 0, .int .i64 0, .int .i64 0, .slice none 0 0]) (ho : w2.ownsRow W0.drew.heap.size 5 1 (.slice A2 mid.length c2) mid.length (bs mid)) (hg : Below W0.drew.heap.size W0.drew w2) (hbb : Below w.heap.size w W0) :
    Blk ((((w2.setCell ⟨w.heap.size, 0, none⟩ (.int .i64 ((x : Nat) : Int))).setCell ⟨w.heap.size, 1, none⟩ (.int .i64 ((y : Nat) : Int))).setCell ⟨w.heap.size, 2, none⟩ (.int .i64 ((ID : Nat) : Int))).setCell ⟨w.heap.size, 3, none⟩ (.slice A2 mid.length c2))
      w.heap.size 50 #[.int .i64 ((x : Nat) : Int), .int .i64 ((y : Nat) : Int), .int .i64 ((ID : Nat) : Int), .slice A2 mid.length c2] ∧
    FrGave w ((((w2.setCell ⟨w.heap.size, 0, none⟩ (.int .i64 ((x : Nat) : Int))).setCell ⟨w.heap.size, 1, none⟩ (.int .i64 ((y : Nat) : Int))).setCell ⟨w.heap.size, 2, none⟩ (.int .i64 ((ID : Nat) : Int))).setCell ⟨w.heap.size, 3, none⟩ (.slice A2 mid.length c2))
      (.agg #[.int .i64 ((x : Nat) : Int), .int .i64 ((y : Nat) : Int), .int .i64 ((ID : Nat) : Int), .slice A2 mid.length c2]) l := by
  have h2 : Blk w2 w.heap.size 50 #[.int .i64 0, .int .i64 0, .int .i64 0, .slice none 0 0] := hB.drew.below hg hB.lt
  have hbe : Below w.heap.size w w2 := hbb.trans ((show Below W0.heap.size W0 w2 from ⟨hg.os, hg.tape, hg.output, hg.size, hg.block⟩).mono hbb.size)
  have hlt := h2.lt
  refine ⟨(((h2.set_ 0 _).set_ 1 _).set_ 2 _).set_ 3 _, A2, c2, by rw [hall]; rfl, ?_, ?_⟩
  · rw [hall]
    have hne : ∀ a, A2 = some a → a.block ≠ w.heap.size := by
      intro a ha he
      have h1 := (ho.lt a.block (by
        rcases ho.2 with ⟨hv, _⟩ | ⟨g, cap, cur, hv, _⟩
        · injection hv with hv
          rw [ha] at hv
          cases hv
        · injection hv with hv
          rw [ha] at hv
          cases hv
          rw [ha]
          rfl)).1
      have h3 := hB.lt
      have h4 : W0.drew.heap.size = W0.heap.size := rfl
      omega
    exact Reads.of_own (own_setF (own_setF (own_setF (own_setF ho (p := ⟨w.heap.size, 0, none⟩) hne _) (p := ⟨w.heap.size, 1, none⟩) hne _) (p := ⟨w.heap.size, 2, none⟩) hne _) (p := ⟨w.heap.size, 3, none⟩) hne _)
  · exact (((hbe.setCell (p := ⟨w.heap.size, 0, none⟩) (Nat.le_refl _) _).setCell (p := ⟨w.heap.size, 1, none⟩) (Nat.le_refl _) _).setCell (p := ⟨w.heap.size, 2, none⟩) (Nat.le_refl _) _).setCell (p := ⟨w.heap.size, 3, none⟩) (Nat.le_refl _) _
theorem frame_size2 {a b c d : Value} : (Tryd.prog.info? 50).map (·.size) = some (#[a, b, c, d] : Array Value).size := by kernel_rfl
theorem frame_size : (Tryd.prog.info? 50).map (·.size) = some (#[.int .i64 0, .int .i64 0, .int .i64 0, .slice none 0 0] : Array Value).size := by kernel_rfl
theorem read3 {l : List UInt8} (h : ¬ l.length < 9) : readE l 3 = 0 ∧ readN l 3 = beNat (l.take 3) := by
  have h1 := beNat_take_lt l 3
  have e : readE l 3 = 0 := by
    unfold readE
    rw [if_neg (by omega), if_neg (by omega), if_neg (by show ¬ 2147483647 < beNat (l.take 3); omega)]
  exact ⟨e, by rw [readN, if_pos e]; rfl⟩
theorem read4 {l : List UInt8} (h : ¬ l.length < 4) : (2147483647 < beNat (l.take 4) → readE l 4 = 10 ∧ readN l 4 = 0) ∧ (¬ 2147483647 < beNat (l.take 4) → readE l 4 = 0 ∧ readN l 4 = beNat (l.take 4)) := by
  refine ⟨fun h1 => ?_, fun h1 => ?_⟩
  · have e : readE l 4 = 10 := by
      unfold readE
      rw [if_neg (by omega), if_neg (by omega), if_pos (by simpa using h1)]
    exact ⟨e, by rw [readN, if_neg (by omega)]⟩
  · have e : readE l 4 = 0 := by
      unfold readE
      rw [if_neg (by omega), if_neg (by omega), if_neg (by simpa using h1)]
    exact ⟨e, by rw [readN, if_pos e]; rfl⟩

set_option maxRecDepth 100000 in
set_option maxHeartbeats 4000000 in
theorem fread_any (l : List UInt8) (A : Option Addr) (n c : Nat) (hn : n = l.length) (hcap : l.length ≤ c) (hm : l.length ≤ 140737488355328) (w : World) (hr : Reads w w.heap.size 1 A l.length (bs l)) :
    Calls Tryd.prog 31 #[.slice A n c] w fun e w' => ∃ v, e = .returned (.tuple #[v, .int .i64 ((frmR l).2.1 : Nat), errV (frmR l).2.2]) ∧ FrGave w w' v l := by
  subst hn
  by_cases h9 : l.length < 9
  · rw [frmR_short h9, errV_pos (by decide)]
    have HZ := Lib.hid (frgave_zero (w := w) (frmR_short h9))
    clear hr
    go_enter Tryd.func31, Tryd.ntmps31
    go_wp2
    refine bodyPost_ret (results_cell_tmp2 rfl _ _ w.heap.size _ _ _ rfl (Blk.new w _ _) Tryd.underlying50 rfl frame_size) rfl ?_
    exact ⟨_, rfl, HZ.out⟩
  have hb0 := (Below.refl w.heap.size w).alloc (Nat.le_refl _) (.cells #[.int .i64 0, .int .i64 0, .int .i64 0, .slice none 0 0] 50)
  have hr0 := (hr.below hb0).more hb0.size
  have r5 := hr0.cut (k := 5) (cap := c) (by omega) hcap
  rw [if_neg (by omega), bs_drop] at r5
  obtain ⟨b, off, x, y, rfl, hbB, e3, e4, hx, hy, hx2, hy2⟩ := frm_cells hr0 (by omega)
  have h5l : (l.drop 5).length = l.length - 5 := by simp
  rw [← h5l] at r5
  have r5' : Reads (w.alloc (.cells #[.int .i64 0, .int .i64 0, .int .i64 0, .slice none 0 0] 50)) (w.alloc (.cells #[.int .i64 0, .int .i64 0, .int .i64 0, .slice none 0 0] 50)).heap.size 1 (some ⟨b, off + 5, none⟩) (l.drop 5).length (bs (l.drop 5)) := by
    simpa [Addr.add_lit] using r5
  have HR0 := Lib.hid hr0
  have HR5 := Lib.hid r5'
  have HR3 := Lib.hid (read3 h9)
  have HR4 := Lib.hid (read4 (l := l.drop 5) (by omega))
  have H5L := Lib.hid h5l
  have HBB := Lib.hid hb0
  have hc5 : ¬ c = 5 := by omega
  clear r5 r5' h5l hb0
  by_cases h1024 : 1024 < beNat (l.take 3)
  · rw [frmR_full h9 h1024, errV_pos (by decide)]
    have HZ := Lib.hid (frgave_zero (w := w) (frmR_full h9 h1024))
    have h1 : (1024 : Int) < ((beNat (l.take 3) : Nat) : Int) := by omega
    have H1 := Lib.hid h1
    clear hr hr0 e3 e4 hx hy h1024 h1
    go_enter Tryd.func31, Tryd.ntmps31
    go_wp2_with fail
    refine (wread_any l 3 _ _ c rfl hcap (by unfold maxLen; omega) _ _ HR0.out).mono ?_
    rintro e w' ⟨rfl, rfl⟩
    rw [HR3.out.1, HR3.out.2, errV_zero]
    go_wp2_with fail
    refine (wread_any (l.drop 5) 4 _ _ (c - 5) (by rw [H5L.out]) (by rw [H5L.out]; omega) (by rw [H5L.out]; unfold maxLen; omega) _ _ HR5.out).mono ?_
    rintro e w' ⟨rfl, rfl⟩
    have h1 := H1.out
    generalize readN (l.drop 5) 4 = NN at *
    generalize errV (readE (l.drop 5) 4) = EE at *
    go_wp2
    refine bodyPost_ret (results_cell_tmp2 rfl _ _ w.heap.size _ _ _ rfl (Blk.new w _ _) Tryd.underlying50 rfl frame_size) rfl ?_
    exact ⟨_, rfl, HZ.out⟩
  by_cases hov : 2147483647 < beNat ((l.drop 5).take 4)
  · rw [frmR_over h9 h1024 hov, errV_pos (by decide)]
    have HZ := Lib.hid (frgave_zero (w := w) (frmR_over h9 h1024 hov))
    have h1 : ¬ (1024 : Int) < ((beNat (l.take 3) : Nat) : Int) := by omega
    have H1 := Lib.hid h1
    have H4 := Lib.hid (HR4.out.1 hov)
    clear hr hr0 e3 e4 hx hy h1024 h1 hov HR4
    go_enter Tryd.func31, Tryd.ntmps31
    go_wp2_with fail
    refine (wread_any l 3 _ _ c rfl hcap (by unfold maxLen; omega) _ _ HR0.out).mono ?_
    rintro e w' ⟨rfl, rfl⟩
    rw [HR3.out.1, HR3.out.2, errV_zero]
    go_wp2_with fail
    refine (wread_any (l.drop 5) 4 _ _ (c - 5) (by rw [H5L.out]) (by rw [H5L.out]; omega) (by rw [H5L.out]; unfold maxLen; omega) _ _ HR5.out).mono ?_
    rintro e w' ⟨rfl, rfl⟩
    rw [H4.out.1, H4.out.2, errV_pos (by decide)]
    have h1 := H1.out
    go_wp2
    refine bodyPost_ret (results_cell_tmp2 rfl _ _ w.heap.size _ _ _ rfl (Blk.new w _ _) Tryd.underlying50 rfl frame_size) rfl ?_
    exact ⟨_, rfl, HZ.out⟩
  have H4 := Lib.hid (HR4.out.2 hov)
  by_cases hmo : l.length - 9 < beNat (l.take 3)
  · rw [frmR_more h9 h1024 hov hmo, errV_pos (by decide)]
    have HZ := Lib.hid (frgave_zero (w := w) (frmR_more h9 h1024 hov hmo))
    have h1 : ¬ (1024 : Int) < ((beNat (l.take 3) : Nat) : Int) := by omega
    have h2 : ((l.length : Nat) : Int) - 9 < ((beNat (l.take 3) : Nat) : Int) := by omega
    have H1 := Lib.hid h1
    have H2 := Lib.hid h2
    clear hr hr0 e3 e4 hx hy h1024 h1 hov HR4 hmo h2
    go_enter Tryd.func31, Tryd.ntmps31
    go_wp2_with fail
    refine (wread_any l 3 _ _ c rfl hcap (by unfold maxLen; omega) _ _ HR0.out).mono ?_
    rintro e w' ⟨rfl, rfl⟩
    rw [HR3.out.1, HR3.out.2, errV_zero]
    go_wp2_with fail
    refine (wread_any (l.drop 5) 4 _ _ (c - 5) (by rw [H5L.out]) (by rw [H5L.out]; omega) (by rw [H5L.out]; unfold maxLen; omega) _ _ HR5.out).mono ?_
    rintro e w' ⟨rfl, rfl⟩
    rw [H4.out.1, H4.out.2, errV_zero]
    have h1 := H1.out
    have h2 := H2.out
    go_wp2
    refine bodyPost_ret (results_cell_tmp2 rfl _ _ w.heap.size _ _ _ rfl (Blk.new w _ _) Tryd.underlying50 rfl frame_size) rfl ?_
    exact ⟨_, rfl, HZ.out⟩
  · have hall := frmR_all h9 h1024 hov hmo
    rw [hx, hy] at hall
    have hlen : ((l.drop 9).take (beNat (l.take 3))).length = beNat (l.take 3) := by
      rw [List.length_take, List.length_drop]
      omega
    have hmid := reads_mid (c := c) hr0 (at_ := 9) (n := beNat (l.take 3)) (by omega) hcap
    obtain ⟨A1, hA1⟩ : ∃ A1, (if c = 9 then some (⟨b, off, none⟩ : Addr) else some ⟨b, off + 9, none⟩) = A1 := ⟨_, rfl⟩
    rw [hA1] at hmid
    have hA0 : A1 = none → c - 9 = 0 := by
      rw [← hA1]
      split
      · intro h; cases h
      · intro h; cases h
    obtain ⟨mid, hmd⟩ : ∃ mid, (l.drop 9).take (beNat (l.take 3)) = mid := ⟨_, rfl⟩
    rw [hmd] at hmid hlen hall
    obtain ⟨N, hN⟩ : ∃ N, beNat (l.take 3) = N := ⟨_, rfl⟩
    rw [hN] at hmid hlen hmo h1024 hall
    obtain ⟨ID, hID⟩ : ∃ ID, beNat ((l.drop 5).take 4) = ID := ⟨_, rfl⟩
    have HID := Lib.hid hID
    rw [hID] at hall
    have HALL := Lib.hid hall
    rw [show (frmR l).2.1 = 9 + N by rw [hall], show (frmR l).2.2 = 0 by rw [hall], errV_zero]
    have hwx : IntKind.i64.wrap ((x : Nat) : Int) = ((x : Nat) : Int) := by rw [IntKind.wrap_i64]; omega
    have hwy : IntKind.i64.wrap ((y : Nat) : Int) = ((y : Nat) : Int) := by rw [IntKind.wrap_i64]; omega
    have h1 : ¬ (1024 : Int) < ((N : Nat) : Int) := by omega
    have h2 : ¬ ((l.length : Nat) : Int) - 9 < ((N : Nat) : Int) := by omega
    have h3 : 9 + N ≤ c := by omega
    have hN2 : N ≤ 1024 := by omega
    have HN := Lib.hid hN
    have H1 := Lib.hid h1
    have H2 := Lib.hid h2
    have HA0 := Lib.hid hA0
    have HM := Lib.hid hmid
    have HL := Lib.hid hlen
    have E3 := Lib.hid e3
    have E4 := Lib.hid e4
    clear hall hmd hx hy hA0 hmid hN hlen hID
    clear hr hr0 e3 e4 h1024 h1 hov HR4 hmo h2
    go_enter Tryd.func31, Tryd.ntmps31
    go_wp2_with fail
    refine (wread_any l 3 _ _ c rfl hcap (by unfold maxLen; omega) _ _ HR0.out).mono ?_
    rintro e w' ⟨rfl, rfl⟩
    rw [HR3.out.1, HR3.out.2, errV_zero]
    go_wp2_with fail
    refine (wread_any (l.drop 5) 4 _ _ (c - 5) (by rw [H5L.out]) (by rw [H5L.out]; omega) (by rw [H5L.out]; unfold maxLen; omega) _ _ HR5.out).mono ?_
    rintro e w' ⟨rfl, rfl⟩
    rw [H4.out.1, H4.out.2, errV_zero, HN.out]
    have h1 := H1.out
    have h2 := H2.out
    have e3 := E3.out
    have e4 := E4.out
    rw [HID.out]
    have hB0 : Blk (w.alloc (.cells #[.int .i64 0, .int .i64 0, .int .i64 0, .slice none 0 0] 50)) w.heap.size 50 #[.int .i64 0, .int .i64 0, .int .i64 0, .slice none 0 0] := Blk.new w _ _
    have HB0 := Lib.hid hB0
    clear hB0
    go_wp2_with fail
    generalize (w.alloc (.cells #[.int .i64 0, .int .i64 0, .int .i64 0, .slice none 0 0] 50)) = W0 at *
    have hi3 : (3 : Int) < ((l.length : Nat) : Int) := by omega
    have hi4 : (4 : Int) < ((l.length : Nat) : Int) := by omega
    have hs9 : (9 : Int) + ((N : Nat) : Int) ≤ ((c : Nat) : Int) := by omega
    have hs0 : (0 : Int) ≤ ((N : Nat) : Int) := by omega
    have hs90 : (0 : Int) ≤ 9 + ((N : Nat) : Int) := by omega
    have hsm : (9 : Int) ≤ max (9 + ((N : Nat) : Int)) 0 := by omega
    have hsn : ((9 : Int) + ((N : Nat) : Int)).toNat - 9 = N := by omega
    have hsw : IntKind.i64.wrap ((9 : Int) + ((N : Nat) : Int)) = 9 + ((N : Nat) : Int) := by rw [IntKind.wrap_i64]; omega
    go_region_law (first | (go_simp; go_at_call 78; refine (clone_any A1 mid _ _ HL.out.symm HA0.out (by rw [HL.out]; omega) _ (by rw [HL.out]; exact HM.out.drew)).mono ?_; rintro e w2 ⟨A2, c2, rfl, ho2, hg2⟩; have HEND := Lib.hid (fr_end HALL.out HB0.out ho2 hg2 HBB.out); have e3 := cell_drewF hg2 E3.out; have e4 := cell_drewF hg2 E4.out; have hblk2 := HB0.out.drew.below hg2 HB0.out.lt; have f0 := hblk2.frozen 0; have f1 := hblk2.frozen 1; have f2 := hblk2.frozen 2; have f3 := hblk2.frozen 3; have q0 := hblk2.cell 0; have q1 := hblk2.cell 1; have q2 := hblk2.cell 2; have q3 := hblk2.cell 3))
    all_goals go_wp2
    all_goals
      refine bodyPost_ret (results_cell_tmp2 rfl _ _ w.heap.size _ _ _ rfl HEND.out.1 Tryd.underlying50 rfl frame_size2) rfl ?_
      exact ⟨_, rfl, HEND.out.2⟩
end Go.Proofs.YtkbbkamnmdeagaaDoor
