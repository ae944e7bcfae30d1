/-
  The frame that bytes begin with: the contracts of frame.Read and of the reference's ReadFrame. Condition: the bound on the bytes.
  Plain law: a number behind the high bits of a byte, in as many bytes as it needs, and back. Nothing of the program.
  Plain law: what is written is read, cut off it is not whole, what is read is written. Nothing of the program.
-/
import Derived.Test.YtbgnggkgmeagkaaGreatDoorMTopLines04
import Derived.Deep.RegionLaw
import Derived.Deep.DrawnRows
import Derived.Deep.QuietTactic
import Derived.BigQuiet
import Derived.Deep.AppendLies
import Derived.Test.YtbgnggkgmeagkaaGreatDoorMTopLines02
set_option linter.unusedSimpArgs false
set_option linter.unusedVariables false
namespace Go.Proofs.YtbgnggkgmeagkaaGreatDoor
open Go.RowKit

theorem frm_cells {w : World} {B : Nat} {A : Option Addr} {l : List UInt8} (h : Reads w B 1 A l.length (bs l)) (h9 : 9 ≤ l.length) :
    ∃ b off x y, A = some ⟨b, off, none⟩ ∧ b < B ∧ w.cell? ⟨b, off + 3, none⟩ = some (.int .u8 ((x : Nat) : Int)) ∧ w.cell? ⟨b, off + 4, none⟩ = some (.int .u8 ((y : Nat) : Int)) ∧ (l.getD 3 0).toNat = x ∧ (l.getD 4 0).toNat = y ∧ x < 256 ∧ y < 256 := by
  obtain ⟨b, off, rfl, hb, hc⟩ := h.form (by omega)
  have e3 := hc 3 _ (bs_at l (show 3 < l.length by omega))
  have e4 := hc 4 _ (bs_at l (show 4 < l.length by omega))
  refine ⟨b, off, _, _, rfl, hb, ?_, ?_, rfl, rfl, (l.getD 3 0).toNat_lt, (l.getD 4 0).toNat_lt⟩
  · rw [e3, List.getD_eq_getElem?_getD, List.getElem?_eq_getElem (show 3 < l.length by omega)]
    rfl
  · rw [e4, List.getD_eq_getElem?_getD, List.getElem?_eq_getElem (show 4 < l.length by omega)]
    rfl
theorem results_cell_tmp2 {P : Program} {fn : Func} {p u v : Tmp} {ty : TypeId} (h : fn.results = #[.cell p ty, .tmp u, .tmp v]) (tmps : Array Value) (w : World) (g : Nat) (t : TypeId) (cs : Array Value) (d : TypeDesc)
    (hp : tmps.getD p undef = .pointer (some ⟨g, 0, none⟩)) (hg : Blk w g t cs)
    (hu : P.underlying ty = some d) (hd : (match d with | .struct _ | .array _ _ => true | _ => false) = true) (hi : (P.info? ty).map (·.size) = some cs.size) :
    (results fn tmps).run P w = .ok (.tuple #[.agg cs, tmps.getD u undef, tmps.getD v undef]) w := by
  have hp' : tmps[p]?.getD undef = .pointer (some ⟨g, 0, none⟩) := by simpa using hp
  simp [results, h, hp', asAddr, run_loadVar_row w g t ty cs (0, 0) d hg hu hd hi]
theorem cell_drewR {w w1 : World} (hb : Below w.drew.heap.size w.drew w1) {p : Addr} {v : Value} (h : w.cell? p = some v) : w1.cell? p = some v := (hb.cell (World.block_lt_of_cell? w p h)).trans h
/-- A frame read: the value, the words that its call hands back. -/
def FrGave (w w' : World) (v : Value) (l : List UInt8) : Prop := ∃ A c, v = frV (frmR l).1 A c ∧ w'.ownsRow w.heap.size 5 1 (.slice A (frmR l).1.body.length c) (frmR l).1.body.length (bs (frmR l).1.body) ∧ Below w.heap.size w w'

theorem frgave_zero {w : World} {l : List UInt8} {N E : Nat} (h : frmR l = (frm0, N, E)) : FrGave w (w.alloc (.cells #[.int .i64 0, .int .i64 0, .int .i64 0, .slice none 0 0] 134)) (.agg #[.int .i64 0, .int .i64 0, .int .i64 0, .slice none 0 0]) l :=
  ⟨none, 0, by rw [h]; rfl, by rw [h]; exact World.ownsRow_nil _ _ _ _, (Below.refl _ _).alloc (Nat.le_refl _) _⟩
theorem own_setF {w : World} {B size n : Nat} {e : TypeId} {A : Option Addr} {c : Nat} {xs : List Value} (h : w.ownsRow B e size (.slice A n c) n xs) {p : Addr} (hp : ∀ a, A = some a → a.block ≠ p.block) (u : Value) : (w.setCell p u).ownsRow B e size (.slice A n c) n xs := by
  refine ⟨h.1, ?_⟩
  rcases h.2 with h0 | ⟨g, cap, cur, hv, hB, hh, hr⟩
  · exact .inl h0
  · refine .inr ⟨g, cap, cur, hv, hB, ?_, hr⟩
    injection hv with hA
    exact (Below.heap_setCell w p u g (hp _ hA)).trans hh
theorem fr_end {w W0 w2 : World} {l mid : List UInt8} {x y N ID : Nat} {A2 : Option Addr} {c2 : Nat} (hall : frmR l = (⟨(x : Nat), (y : Nat), (ID : Nat), mid⟩, 9 + N, 0))
    (hB : Blk W0 w.heap.size 134 #[.int .i64 0, .int .i64 0, .int .i64 0, .slice none 0 0]) (ho : w2.ownsRow W0.drew.heap.size 5 1 (.slice A2 mid.length c2) mid.length (bs mid)) (hg : Below W0.drew.heap.size W0.drew w2) (hbb : Below w.heap.size w W0) :
    Blk ((((w2.setCell ⟨w.heap.size, 0, none⟩ (.int .i64 ((x : Nat) : Int))).setCell ⟨w.heap.size, 1, none⟩ (.int .i64 ((y : Nat) : Int))).setCell ⟨w.heap.size, 2, none⟩ (.int .i64 ((ID : Nat) : Int))).setCell ⟨w.heap.size, 3, none⟩ (.slice A2 mid.length c2))
      w.heap.size 134 #[.int .i64 ((x : Nat) : Int), .int .i64 ((y : Nat) : Int), .int .i64 ((ID : Nat) : Int), .slice A2 mid.length c2] ∧
    FrGave w ((((w2.setCell ⟨w.heap.size, 0, none⟩ (.int .i64 ((x : Nat) : Int))).setCell ⟨w.heap.size, 1, none⟩ (.int .i64 ((y : Nat) : Int))).setCell ⟨w.heap.size, 2, none⟩ (.int .i64 ((ID : Nat) : Int))).setCell ⟨w.heap.size, 3, none⟩ (.slice A2 mid.length c2))
      (.agg #[.int .i64 ((x : Nat) : Int), .int .i64 ((y : Nat) : Int), .int .i64 ((ID : Nat) : Int), .slice A2 mid.length c2]) l := by
  have h2 : Blk w2 w.heap.size 134 #[.int .i64 0, .int .i64 0, .int .i64 0, .slice none 0 0] := hB.drew.below hg hB.lt
  have hbe : Below w.heap.size w w2 := hbb.trans ((show Below W0.heap.size W0 w2 from ⟨hg.os, hg.tape, hg.output, hg.size, hg.block⟩).mono hbb.size)
  have hlt := h2.lt
  refine ⟨(((h2.set_ 0 _).set_ 1 _).set_ 2 _).set_ 3 _, A2, c2, by rw [hall]; rfl, ?_, ?_⟩
  · rw [hall]
    have hne : ∀ a, A2 = some a → a.block ≠ w.heap.size := by
      intro a ha he
      have h1 := (ho.lt a.block (by
        rcases ho.2 with ⟨hv, _⟩ | ⟨g, cap, cur, hv, _⟩
        · injection hv with hv
          rw [ha] at hv
          cases hv
        · injection hv with hv
          rw [ha] at hv
          cases hv
          rw [ha]
          rfl)).1
      have h3 := hB.lt
      have h4 : W0.drew.heap.size = W0.heap.size := rfl
      omega
    have h9 := own_setF (own_setF (own_setF (own_setF ho (p := ⟨w.heap.size, 0, none⟩) hne (.int .i64 ((x : Nat) : Int))) (p := ⟨w.heap.size, 1, none⟩) hne (.int .i64 ((y : Nat) : Int))) (p := ⟨w.heap.size, 2, none⟩) hne (.int .i64 ((ID : Nat) : Int))) (p := ⟨w.heap.size, 3, none⟩) hne (.slice A2 mid.length c2)
    exact ⟨h9.1, h9.2.imp id fun ⟨g, cap, cur, hv, hB2, r⟩ => ⟨g, cap, cur, hv, Nat.le_trans hbb.size hB2, r⟩⟩
  · exact (((hbe.setCell (p := ⟨w.heap.size, 0, none⟩) (Nat.le_refl _) _).setCell (p := ⟨w.heap.size, 1, none⟩) (Nat.le_refl _) _).setCell (p := ⟨w.heap.size, 2, none⟩) (Nat.le_refl _) _).setCell (p := ⟨w.heap.size, 3, none⟩) (Nat.le_refl _) _
theorem frame_size2 {a b c d : Value} : (Tryz.prog.info? 134).map (·.size) = some (#[a, b, c, d] : Array Value).size := by kernel_rfl
theorem frame_size : (Tryz.prog.info? 134).map (·.size) = some (#[.int .i64 0, .int .i64 0, .int .i64 0, .slice none 0 0] : Array Value).size := by kernel_rfl
theorem read3 {l : List UInt8} (h : ¬ l.length < 9) : readE l 3 = 0 ∧ readN l 3 = beNat (l.take 3) := by
  have h1 := beNat_take_lt l 3
  have e : readE l 3 = 0 := by
    unfold readE
    rw [if_neg (by omega), if_neg (by omega), if_neg (by show ¬ 2147483647 < beNat (l.take 3); omega)]
  exact ⟨e, by rw [readN, if_pos e]; rfl⟩
theorem read4 {l : List UInt8} (h : ¬ l.length < 4) : (2147483647 < beNat (l.take 4) → readE l 4 = 10 ∧ readN l 4 = 0) ∧ (¬ 2147483647 < beNat (l.take 4) → readE l 4 = 0 ∧ readN l 4 = beNat (l.take 4)) := by
  refine ⟨fun h1 => ?_, fun h1 => ?_⟩
  · have e : readE l 4 = 10 := by
      unfold readE
      rw [if_neg (by omega), if_neg (by omega), if_pos (by simpa using h1)]
    exact ⟨e, by rw [readN, if_neg (by omega)]⟩
  · have e : readE l 4 = 0 := by
      unfold readE
      rw [if_neg (by omega), if_neg (by omega), if_neg (by simpa using h1)]
    exact ⟨e, by rw [readN, if_pos e]; rfl⟩

set_option maxRecDepth 100000 in
set_option maxHeartbeats 4000000 in
theorem fread_any (l : List UInt8) (A : Option Addr) (n c : Nat) (hn : n = l.length) (hcap : l.length ≤ c) (hm : l.length ≤ 140737488355328) (w : World) (hr : Reads w w.heap.size 1 A l.length (bs l)) :
    Calls Tryz.prog 161 #[.slice A n c] w fun e w' => ∃ v, e = .returned (.tuple #[v, .int .i64 ((frmR l).2.1 : Nat), errV (frmR l).2.2]) ∧ FrGave w w' v l := by
  subst hn
  by_cases h9 : l.length < 9
  · rw [frmR_short h9, errV_pos (by decide)]
    have HZ := Lib.hid (frgave_zero (w := w) (frmR_short h9))
    clear hr
    go_enter Tryz.func161, Tryz.ntmps161
    go_wp2
    refine bodyPost_ret (results_cell_tmp2 rfl _ _ w.heap.size _ _ _ rfl (Blk.new w _ _) Tryz.underlying134 rfl frame_size) rfl ?_
    exact ⟨_, rfl, HZ.out⟩
  have hb0 := (Below.refl w.heap.size w).alloc (Nat.le_refl _) (.cells #[.int .i64 0, .int .i64 0, .int .i64 0, .slice none 0 0] 134)
  have hr0 := (hr.below hb0).more hb0.size
  have r5 := hr0.cut (k := 5) (cap := c) (by omega) hcap
  rw [if_neg (by omega), bs_drop] at r5
  obtain ⟨b, off, x, y, rfl, hbB, e3, e4, hx, hy, hx2, hy2⟩ := frm_cells hr0 (by omega)
  have h5l : (l.drop 5).length = l.length - 5 := by simp
  rw [← h5l] at r5
  have r5' : Reads (w.alloc (.cells #[.int .i64 0, .int .i64 0, .int .i64 0, .slice none 0 0] 134)) (w.alloc (.cells #[.int .i64 0, .int .i64 0, .int .i64 0, .slice none 0 0] 134)).heap.size 1 (some ⟨b, off + 5, none⟩) (l.drop 5).length (bs (l.drop 5)) := by
    simpa [Addr.add_lit] using r5
  have HR0 := Lib.hid hr0
  have HR5 := Lib.hid r5'
  have HR3 := Lib.hid (read3 h9)
  have HR4 := Lib.hid (read4 (l := l.drop 5) (by omega))
  have H5L := Lib.hid h5l
  have HBB := Lib.hid hb0
  have hc5 : ¬ c = 5 := by omega
  clear r5 r5' h5l hb0
  by_cases h1024 : 1024 < beNat (l.take 3)
  · rw [frmR_full h9 h1024, errV_pos (by decide)]
    have HZ := Lib.hid (frgave_zero (w := w) (frmR_full h9 h1024))
    have h1 : (1024 : Int) < ((beNat (l.take 3) : Nat) : Int) := by omega
    have H1 := Lib.hid h1
    clear hr hr0 e3 e4 hx hy h1024 h1
    go_enter Tryz.func161, Tryz.ntmps161
    go_wp2_with fail
    refine (wread_any l 3 _ _ c rfl hcap (by unfold maxLen; omega) _ _ HR0.out).mono ?_
    rintro e w' ⟨rfl, rfl⟩
    rw [HR3.out.1, HR3.out.2, errV_zero]
    go_wp2_with fail
    refine (wread_any (l.drop 5) 4 _ _ (c - 5) (by rw [H5L.out]) (by rw [H5L.out]; omega) (by rw [H5L.out]; unfold maxLen; omega) _ _ HR5.out).mono ?_
    rintro e w' ⟨rfl, rfl⟩
    have h1 := H1.out
    generalize readN (l.drop 5) 4 = NN at *
    generalize errV (readE (l.drop 5) 4) = EE at *
    go_wp2
    refine bodyPost_ret (results_cell_tmp2 rfl _ _ w.heap.size _ _ _ rfl (Blk.new w _ _) Tryz.underlying134 rfl frame_size) rfl ?_
    exact ⟨_, rfl, HZ.out⟩
  by_cases hov : 2147483647 < beNat ((l.drop 5).take 4)
  · rw [frmR_over h9 h1024 hov, errV_pos (by decide)]
    have HZ := Lib.hid (frgave_zero (w := w) (frmR_over h9 h1024 hov))
    have h1 : ¬ (1024 : Int) < ((beNat (l.take 3) : Nat) : Int) := by omega
    have H1 := Lib.hid h1
    have H4 := Lib.hid (HR4.out.1 hov)
    clear hr hr0 e3 e4 hx hy h1024 h1 hov HR4
    go_enter Tryz.func161, Tryz.ntmps161
    go_wp2_with fail
    refine (wread_any l 3 _ _ c rfl hcap (by unfold maxLen; omega) _ _ HR0.out).mono ?_
    rintro e w' ⟨rfl, rfl⟩
    rw [HR3.out.1, HR3.out.2, errV_zero]
    go_wp2_with fail
    refine (wread_any (l.drop 5) 4 _ _ (c - 5) (by rw [H5L.out]) (by rw [H5L.out]; omega) (by rw [H5L.out]; unfold maxLen; omega) _ _ HR5.out).mono ?_
    rintro e w' ⟨rfl, rfl⟩
    rw [H4.out.1, H4.out.2, errV_pos (by decide)]
    have h1 := H1.out
    go_wp2
    refine bodyPost_ret (results_cell_tmp2 rfl _ _ w.heap.size _ _ _ rfl (Blk.new w _ _) Tryz.underlying134 rfl frame_size) rfl ?_
    exact ⟨_, rfl, HZ.out⟩
  have H4 := Lib.hid (HR4.out.2 hov)
  by_cases hmo : l.length - 9 < beNat (l.take 3)
  · rw [frmR_more h9 h1024 hov hmo, errV_pos (by decide)]
    have HZ := Lib.hid (frgave_zero (w := w) (frmR_more h9 h1024 hov hmo))
    have h1 : ¬ (1024 : Int) < ((beNat (l.take 3) : Nat) : Int) := by omega
    have h2 : ((l.length : Nat) : Int) - 9 < ((beNat (l.take 3) : Nat) : Int) := by omega
    have H1 := Lib.hid h1
    have H2 := Lib.hid h2
    clear hr hr0 e3 e4 hx hy h1024 h1 hov HR4 hmo h2
    go_enter Tryz.func161, Tryz.ntmps161
    go_wp2_with fail
    refine (wread_any l 3 _ _ c rfl hcap (by unfold maxLen; omega) _ _ HR0.out).mono ?_
    rintro e w' ⟨rfl, rfl⟩
    rw [HR3.out.1, HR3.out.2, errV_zero]
    go_wp2_with fail
    refine (wread_any (l.drop 5) 4 _ _ (c - 5) (by rw [H5L.out]) (by rw [H5L.out]; omega) (by rw [H5L.out]; unfold maxLen; omega) _ _ HR5.out).mono ?_
    rintro e w' ⟨rfl, rfl⟩
    rw [H4.out.1, H4.out.2, errV_zero]
    have h1 := H1.out
    have h2 := H2.out
    go_wp2
    refine bodyPost_ret (results_cell_tmp2 rfl _ _ w.heap.size _ _ _ rfl (Blk.new w _ _) Tryz.underlying134 rfl frame_size) rfl ?_
    exact ⟨_, rfl, HZ.out⟩
  · have hall := frmR_all h9 h1024 hov hmo
    rw [hx, hy] at hall
    have hlen : ((l.drop 9).take (beNat (l.take 3))).length = beNat (l.take 3) := by
      rw [List.length_take, List.length_drop]
      omega
    have hmid := reads_mid (c := c) hr0 (at_ := 9) (n := beNat (l.take 3)) (by omega) hcap
    obtain ⟨A1, hA1⟩ : ∃ A1, (if c = 9 then some (⟨b, off, none⟩ : Addr) else some ⟨b, off + 9, none⟩) = A1 := ⟨_, rfl⟩
    rw [hA1] at hmid
    have hA0 : A1 = none → c - 9 = 0 := by
      rw [← hA1]
      split
      · intro h; cases h
      · intro h; cases h
    obtain ⟨mid, hmd⟩ : ∃ mid, (l.drop 9).take (beNat (l.take 3)) = mid := ⟨_, rfl⟩
    rw [hmd] at hmid hlen hall
    obtain ⟨N, hN⟩ : ∃ N, beNat (l.take 3) = N := ⟨_, rfl⟩
    rw [hN] at hmid hlen hmo h1024 hall
    obtain ⟨ID, hID⟩ : ∃ ID, beNat ((l.drop 5).take 4) = ID := ⟨_, rfl⟩
    have HID := Lib.hid hID
    rw [hID] at hall
    have HALL := Lib.hid hall
    rw [show (frmR l).2.1 = 9 + N by rw [hall], show (frmR l).2.2 = 0 by rw [hall], errV_zero]
    have hwx : IntKind.i64.wrap ((x : Nat) : Int) = ((x : Nat) : Int) := by rw [IntKind.wrap_i64]; omega
    have hwy : IntKind.i64.wrap ((y : Nat) : Int) = ((y : Nat) : Int) := by rw [IntKind.wrap_i64]; omega
    have h1 : ¬ (1024 : Int) < ((N : Nat) : Int) := by omega
    have h2 : ¬ ((l.length : Nat) : Int) - 9 < ((N : Nat) : Int) := by omega
    have h3 : 9 + N ≤ c := by omega
    have hN2 : N ≤ 1024 := by omega
    have HN := Lib.hid hN
    have H1 := Lib.hid h1
    have H2 := Lib.hid h2
    have HA0 := Lib.hid hA0
    have HM := Lib.hid hmid
    have HL := Lib.hid hlen
    have E3 := Lib.hid e3
    have E4 := Lib.hid e4
    clear hall hmd hx hy hA0 hmid hN hlen hID
    clear hr hr0 e3 e4 h1024 h1 hov HR4 hmo h2
    go_enter Tryz.func161, Tryz.ntmps161
    go_wp2_with fail
    refine (wread_any l 3 _ _ c rfl hcap (by unfold maxLen; omega) _ _ HR0.out).mono ?_
    rintro e w' ⟨rfl, rfl⟩
    rw [HR3.out.1, HR3.out.2, errV_zero]
    go_wp2_with fail
    refine (wread_any (l.drop 5) 4 _ _ (c - 5) (by rw [H5L.out]) (by rw [H5L.out]; omega) (by rw [H5L.out]; unfold maxLen; omega) _ _ HR5.out).mono ?_
    rintro e w' ⟨rfl, rfl⟩
    rw [H4.out.1, H4.out.2, errV_zero, HN.out]
    have h1 := H1.out
    have h2 := H2.out
    have e3 := E3.out
    have e4 := E4.out
    rw [HID.out]
    have hB0 : Blk (w.alloc (.cells #[.int .i64 0, .int .i64 0, .int .i64 0, .slice none 0 0] 134)) w.heap.size 134 #[.int .i64 0, .int .i64 0, .int .i64 0, .slice none 0 0] := Blk.new w _ _
    have HB0 := Lib.hid hB0
    clear hB0
    go_wp2_with fail
    generalize (w.alloc (.cells #[.int .i64 0, .int .i64 0, .int .i64 0, .slice none 0 0] 134)) = W0 at *
    have hi3 : (3 : Int) < ((l.length : Nat) : Int) := by omega
    have hi4 : (4 : Int) < ((l.length : Nat) : Int) := by omega
    have hs9 : (9 : Int) + ((N : Nat) : Int) ≤ ((c : Nat) : Int) := by omega
    have hs0 : (0 : Int) ≤ ((N : Nat) : Int) := by omega
    have hs90 : (0 : Int) ≤ 9 + ((N : Nat) : Int) := by omega
    have hsm : (9 : Int) ≤ max (9 + ((N : Nat) : Int)) 0 := by omega
    have hsn : ((9 : Int) + ((N : Nat) : Int)).toNat - 9 = N := by omega
    have hsw : IntKind.i64.wrap ((9 : Int) + ((N : Nat) : Int)) = 9 + ((N : Nat) : Int) := by rw [IntKind.wrap_i64]; omega
    go_region_law (first | (go_simp; go_at_call 46; refine (clone_any A1 mid _ _ HL.out.symm HA0.out (by rw [HL.out]; omega) _ (by rw [HL.out]; exact HM.out.drew)).mono ?_; rintro e w2 ⟨A2, c2, rfl, ho2, hg2⟩; have HEND := Lib.hid (fr_end HALL.out HB0.out ho2 hg2 HBB.out); have e3 := cell_drewR hg2 E3.out; have e4 := cell_drewR hg2 E4.out; have hblk2 := HB0.out.drew.below hg2 HB0.out.lt; have f0 := hblk2.frozen 0; have f1 := hblk2.frozen 1; have f2 := hblk2.frozen 2; have f3 := hblk2.frozen 3; have q0 := hblk2.cell 0; have q1 := hblk2.cell 1; have q2 := hblk2.cell 2; have q3 := hblk2.cell 3))
    all_goals go_wp2
    all_goals
      refine bodyPost_ret (results_cell_tmp2 rfl _ _ w.heap.size _ _ _ rfl HEND.out.1 Tryz.underlying134 rfl frame_size2) rfl ?_
      exact ⟨_, rfl, HEND.out.2⟩
end Go.Proofs.YtbgnggkgmeagkaaGreatDoor
namespace Go.Proofs.YtbgnggkgmeagkaaGreatDoor

/-- What goes on in further bytes: seven bits each, the low ones first. -/
def cont (m : Nat) : List UInt8 := if m < 128 then [UInt8.ofNat m] else UInt8.ofNat (m % 128 + 128) :: cont (m / 128)
termination_by m
decreasing_by omega
theorem cont_last {m : Nat} (h : m < 128) : cont m = [UInt8.ofNat m] := by rw [cont, if_pos h]
theorem cont_more {m : Nat} (h : ¬ m < 128) : cont m = UInt8.ofNat (m % 128 + 128) :: cont (m / 128) := by rw [cont, if_neg h]

def putOk (n bits first : Int) : Prop := 1 ≤ bits ∧ bits ≤ 8 ∧ 0 ≤ n ∧ n ≤ 2147483647 ∧ 0 ≤ first ∧ first ≤ 255 ∧ first % 2 ^ bits.toNat = 0
instance (n bits first : Int) : Decidable (putOk n bits first) := by unfold putOk; infer_instance
/-- The bytes of a number that may be. -/
def putN (n t first : Nat) : List UInt8 := if n < 2 ^ t - 1 then [UInt8.ofNat (first + n)] else UInt8.ofNat (first + (2 ^ t - 1)) :: cont (n - (2 ^ t - 1))
def putE (n bits first : Int) : Nat := if putOk n bits first then 0 else 1
def putL (n bits first : Int) : List UInt8 := if putOk n bits first then putN n.toNat bits.toNat first.toNat else []

/-- What is read behind a first byte that is full: the number, how many bytes, the fault. -/
def getFrom : Nat → Nat → List UInt8 → Nat × Nat × Nat
  | _, _, [] => (0, 0, 8)
  | i, n, c :: r =>
    if 2147483647 < n + c.toNat % 128 * 128 ^ i ∨ (i = 4 ∧ 128 ≤ c.toNat) then (0, 0, 10)
    else if 0 < i ∧ c.toNat = 0 then (0, 0, 2)
    else if c.toNat < 128 then (n + c.toNat % 128 * 128 ^ i, i + 2, 0)
    else getFrom (i + 1) (n + c.toNat % 128 * 128 ^ i) r
def getV (l : List UInt8) (bits : Int) : Nat × Nat × Nat :=
  if bits < 1 ∨ 8 < bits then (0, 0, 1) else match l with
    | [] => (0, 0, 8)
    | c :: r => if c.toNat % 2 ^ bits.toNat < 2 ^ bits.toNat - 1 then (c.toNat % 2 ^ bits.toNat, 1, 0) else getFrom 0 (c.toNat % 2 ^ bits.toNat) r

theorem getFrom_over {i n : Nat} {c : UInt8} {r : List UInt8} (h : 2147483647 < n + c.toNat % 128 * 128 ^ i ∨ (i = 4 ∧ 128 ≤ c.toNat)) : getFrom i n (c :: r) = (0, 0, 10) := by
  rw [getFrom, if_pos h]
theorem getFrom_zero {i n : Nat} {c : UInt8} {r : List UInt8} (h : ¬ (2147483647 < n + c.toNat % 128 * 128 ^ i ∨ (i = 4 ∧ 128 ≤ c.toNat))) (h2 : 0 < i ∧ c.toNat = 0) : getFrom i n (c :: r) = (0, 0, 2) := by
  rw [getFrom, if_neg h, if_pos h2]
theorem getFrom_done {i n : Nat} {c : UInt8} {r : List UInt8} (h : ¬ (2147483647 < n + c.toNat % 128 * 128 ^ i ∨ (i = 4 ∧ 128 ≤ c.toNat))) (h2 : ¬ (0 < i ∧ c.toNat = 0)) (h3 : c.toNat < 128) :
    getFrom i n (c :: r) = (n + c.toNat % 128 * 128 ^ i, i + 2, 0) := by
  rw [getFrom, if_neg h, if_neg h2, if_pos h3]
theorem getFrom_next {i n : Nat} {c : UInt8} {r : List UInt8} (h : ¬ (2147483647 < n + c.toNat % 128 * 128 ^ i ∨ (i = 4 ∧ 128 ≤ c.toNat))) (h2 : ¬ (0 < i ∧ c.toNat = 0)) (h3 : ¬ c.toNat < 128) :
    getFrom i n (c :: r) = getFrom (i + 1) (n + c.toNat % 128 * 128 ^ i) r := by
  rw [getFrom, if_neg h, if_neg h2, if_neg h3]

theorem pow2_bounds {t : Nat} (h1 : 1 ≤ t) (h8 : t ≤ 8) : 2 ≤ 2 ^ t ∧ 2 ^ t ≤ 256 := by
  rcases (by omega : t = 1 ∨ t = 2 ∨ t = 3 ∨ t = 4 ∨ t = 5 ∨ t = 6 ∨ t = 7 ∨ t = 8) with rfl | rfl | rfl | rfl | rfl | rfl | rfl | rfl <;> simp
theorem pow128 (k : Nat) : 2 ^ (7 * k) = 128 ^ k := by rw [Nat.pow_mul]
theorem pow128_le {k : Nat} (h : k ≤ 4) : 1 ≤ 128 ^ k ∧ 128 ^ k ≤ 268435456 := by
  rcases (by omega : k = 0 ∨ k = 1 ∨ k = 2 ∨ k = 3 ∨ k = 4) with rfl | rfl | rfl | rfl | rfl <;> simp
end Go.Proofs.YtbgnggkgmeagkaaGreatDoor
namespace Go.Proofs.YtbgnggkgmeagkaaGreatDoor

theorem toNat_ofNat_lt {x : Nat} (h : x < 256) : (UInt8.ofNat x).toNat = x := by
  simp only [UInt8.toNat_ofNat']
  omega

theorem cont_pos (m : Nat) : 1 ≤ (cont m).length := by
  by_cases h : m < 128
  · rw [cont_last h]; simp
  · rw [cont_more h]; simp

theorem pow128_succ (k : Nat) : 128 ^ (k + 1) = 128 ^ k * 128 := Nat.pow_succ ..
theorem split128 (m k : Nat) : m / 128 * 128 ^ (k + 1) + m % 128 * 128 ^ k = m * 128 ^ k := by
  rw [pow128_succ, Nat.mul_comm (128 ^ k) 128, ← Nat.mul_assoc, ← Nat.add_mul]
  congr 1
  omega
/-- What goes on is read. -/
theorem getFrom_cont (b : List UInt8) : ∀ (m k x : Nat), x + m * 128 ^ k ≤ 2147483647 → (k = 0 ∨ 0 < m) → k ≤ 4 →
    getFrom k x (cont m ++ b) = (x + m * 128 ^ k, k + 1 + (cont m).length, 0) := by
  intro m
  induction m using Nat.strongRecOn with
  | ind m ih =>
    intro k x hM h0 h4
    by_cases h : m < 128
    · rw [cont_last h]
      have e := toNat_ofNat_lt (show m < 256 by omega)
      have e2 : m % 128 = m := Nat.mod_eq_of_lt h
      show getFrom k x (UInt8.ofNat m :: b) = _
      rw [getFrom_done (by rw [e, e2]; omega) (by rw [e]; omega) (by rw [e]; exact h), e, e2]
      rfl
    · rw [cont_more h]
      have e := toNat_ofNat_lt (show m % 128 + 128 < 256 by omega)
      have e2 : (m % 128 + 128) % 128 = m % 128 := by omega
      have hs := split128 m k
      have hk : k ≠ 4 := by
        rintro rfl
        have h2 : 128 * 128 ^ 4 ≤ m * 128 ^ 4 := Nat.mul_le_mul_right _ (by omega)
        omega
      show getFrom k x (UInt8.ofNat (m % 128 + 128) :: (cont (m / 128) ++ b)) = _
      rw [getFrom_next (by rw [e, e2]; omega) (by rw [e]; omega) (by rw [e]; omega), e, e2]
      rw [ih (m / 128) (by omega) (k + 1) _ (by omega) (.inr (by omega)) (by omega)]
      have e3 : x + m % 128 * 128 ^ k + m / 128 * 128 ^ (k + 1) = x + m * 128 ^ k := by omega
      have e4 : k + 1 + 1 + (cont (m / 128)).length = k + 1 + (UInt8.ofNat (m % 128 + 128) :: cont (m / 128)).length := by
        rw [List.length_cons]
        omega
      rw [e3, e4]
/-- Cut off it is not whole. -/
theorem getFrom_cut : ∀ (m k x j : Nat), x + m * 128 ^ k ≤ 2147483647 → k ≤ 4 → j < (cont m).length → getFrom k x ((cont m).take j) = (0, 0, 8) := by
  intro m
  induction m using Nat.strongRecOn with
  | ind m ih =>
    intro k x j hM h4 hj
    by_cases h : m < 128
    · rw [cont_last h] at hj ⊢
      have : j = 0 := by simpa using hj
      subst this
      rfl
    · rw [cont_more h] at hj ⊢
      cases j with
      | zero => rfl
      | succ j =>
        have e := toNat_ofNat_lt (show m % 128 + 128 < 256 by omega)
        have e2 : (m % 128 + 128) % 128 = m % 128 := by omega
        have hs := split128 m k
        have hk : k ≠ 4 := by
          rintro rfl
          have h2 : 128 * 128 ^ 4 ≤ m * 128 ^ 4 := Nat.mul_le_mul_right _ (by omega)
          omega
        rw [List.take_succ_cons, getFrom_next (by rw [e, e2]; omega) (by rw [e]; omega) (by rw [e]; omega), e, e2]
        exact ih (m / 128) (by omega) (k + 1) _ j (by omega) (by omega) (by simpa using hj)
/-- What is read is as it would be written. -/
theorem getFrom_inv : ∀ (r : List UInt8) (k x N U : Nat), k ≤ 4 → getFrom k x r = (N, U, 0) →
    ∃ q, N = x + q * 128 ^ k ∧ N ≤ 2147483647 ∧ k + 1 < U ∧ U ≤ k + 1 + r.length ∧ cont q = r.take (U - (k + 1)) ∧ (0 < k → 0 < q) := by
  intro r
  induction r with
  | nil => intro k x N U _ h; simp [getFrom] at h
  | cons c r ih =>
    intro k x N U hk h
    have hc := c.toNat_lt
    by_cases h1 : 2147483647 < x + c.toNat % 128 * 128 ^ k ∨ (k = 4 ∧ 128 ≤ c.toNat)
    · rw [getFrom_over h1] at h; simp at h
    by_cases h2 : 0 < k ∧ c.toNat = 0
    · rw [getFrom_zero h1 h2] at h; simp at h
    by_cases h3 : c.toNat < 128
    · rw [getFrom_done h1 h2 h3] at h
      simp only [Prod.mk.injEq, and_true] at h
      obtain ⟨rfl, rfl⟩ := h
      have e : c.toNat % 128 = c.toNat := Nat.mod_eq_of_lt h3
      refine ⟨c.toNat, by rw [e], by omega, by omega, by simp only [List.length_cons]; omega, ?_, by omega⟩
      rw [cont_last h3, show k + 2 - (k + 1) = 1 by omega]
      simp
    · rw [getFrom_next h1 h2 h3] at h
      obtain ⟨q, hN, hM, hU, hU2, hq, hp⟩ := ih (k + 1) _ N U (by omega) h
      have hq0 := hp (by omega)
      have hs := split128 (c.toNat % 128 + 128 * q) k
      have e1 : (c.toNat % 128 + 128 * q) / 128 = q := by omega
      have e2 : (c.toNat % 128 + 128 * q) % 128 = c.toNat % 128 := by omega
      rw [e1, e2] at hs
      refine ⟨c.toNat % 128 + 128 * q, by omega, hM, by omega, by simp only [List.length_cons]; omega, ?_, by omega⟩
      rw [cont_more (by omega), e1, e2, hq, show U - (k + 1) = (U - (k + 1 + 1)) + 1 by omega, List.take_succ_cons]
      congr 1
      apply UInt8.toNat_inj.1
      rw [toNat_ofNat_lt (by omega)]
      omega

theorem putN_len (n t f : Nat) : 1 ≤ (putN n t f).length := by
  unfold putN
  split <;> simp

/-- A number that may be, in the low bits, whatever stands behind it. -/
theorem getV_put (n t : Nat) (b : List UInt8) (ht : 1 ≤ t) (ht8 : t ≤ 8) (hn : n ≤ 2147483647) : getV (putN n t 0 ++ b) (t : Int) = (n, (putN n t 0).length, 0) := by
  have hp := pow2_bounds ht ht8
  have hno : ¬ ((t : Int) < 1 ∨ 8 < (t : Int)) := by omega
  by_cases h : n < 2 ^ t - 1
  · have e : putN n t 0 = [UInt8.ofNat n] := by rw [putN, if_pos h, Nat.zero_add]
    rw [e]
    have e1 := toNat_ofNat_lt (show n < 256 by omega)
    have e2 : n % 2 ^ t = n := Nat.mod_eq_of_lt (by omega)
    simp [getV, hno, e1, e2, h]
  · have e : putN n t 0 = UInt8.ofNat (2 ^ t - 1) :: cont (n - (2 ^ t - 1)) := by rw [putN, if_neg h, Nat.zero_add]
    rw [e]
    have e1 := toNat_ofNat_lt (show 2 ^ t - 1 < 256 by omega)
    have e2 : (2 ^ t - 1) % 2 ^ t = 2 ^ t - 1 := Nat.mod_eq_of_lt (by omega)
    have e3 : getV (UInt8.ofNat (2 ^ t - 1) :: cont (n - (2 ^ t - 1)) ++ b) (t : Int) = getFrom 0 (2 ^ t - 1) (cont (n - (2 ^ t - 1)) ++ b) := by
      simp only [getV, if_neg hno, List.cons_append, Int.toNat_natCast, e1, e2]
      rw [if_neg (by omega)]
    rw [e3, getFrom_cont b _ 0 _ (by omega) (.inl rfl) (by omega)]
    simp only [List.length_cons, Prod.mk.injEq, and_true]
    omega
theorem getV_cut (n t i : Nat) (ht : 1 ≤ t) (ht8 : t ≤ 8) (hn : n ≤ 2147483647) (hi : i < (putN n t 0).length) : getV ((putN n t 0).take i) (t : Int) = (0, 0, 8) := by
  have hp := pow2_bounds ht ht8
  have hno : ¬ ((t : Int) < 1 ∨ 8 < (t : Int)) := by omega
  cases i with
  | zero => simp [getV, hno]
  | succ i =>
    by_cases h : n < 2 ^ t - 1
    · have e : putN n t 0 = [UInt8.ofNat n] := by rw [putN, if_pos h, Nat.zero_add]
      rw [e] at hi
      simp at hi
    · have e : putN n t 0 = UInt8.ofNat (2 ^ t - 1) :: cont (n - (2 ^ t - 1)) := by rw [putN, if_neg h, Nat.zero_add]
      rw [e] at hi ⊢
      have e1 := toNat_ofNat_lt (show 2 ^ t - 1 < 256 by omega)
      have e2 : (2 ^ t - 1) % 2 ^ t = 2 ^ t - 1 := Nat.mod_eq_of_lt (by omega)
      rw [List.take_succ_cons]
      have e3 : getV (UInt8.ofNat (2 ^ t - 1) :: (cont (n - (2 ^ t - 1))).take i) (t : Int) = getFrom 0 (2 ^ t - 1) ((cont (n - (2 ^ t - 1))).take i) := by
        simp only [getV, if_neg hno, Int.toNat_natCast, e1, e2]
        rw [if_neg (by omega)]
      rw [e3]
      exact getFrom_cut _ 0 _ i (by omega) (by omega) (by simpa using hi)
/-- What is read of any bytes is written as these, with their high bits. -/
theorem put_getV (c : UInt8) (r : List UInt8) (s : Int) (N U : Nat) (h : getV (c :: r) s = (N, U, 0)) :
    1 ≤ s ∧ s ≤ 8 ∧ N ≤ 2147483647 ∧ 1 ≤ U ∧ U ≤ r.length + 1 ∧ putN N s.toNat (c.toNat / 2 ^ s.toNat * 2 ^ s.toNat) = (c :: r).take U := by
  by_cases hno : s < 1 ∨ 8 < s
  · simp [getV, hno] at h
  have hp := pow2_bounds (t := s.toNat) (by omega) (by omega)
  have hc := c.toNat_lt
  have hd := Nat.div_add_mod c.toNat (2 ^ s.toNat)
  rw [Nat.mul_comm] at hd
  have hm := Nat.mod_lt c.toNat (show 0 < 2 ^ s.toNat by omega)
  simp only [getV, if_neg hno] at h
  by_cases hlt : c.toNat % 2 ^ s.toNat < 2 ^ s.toNat - 1
  · rw [if_pos hlt] at h
    simp only [Prod.mk.injEq, and_true] at h
    obtain ⟨rfl, rfl⟩ := h
    refine ⟨by omega, by omega, by omega, by omega, by omega, ?_⟩
    rw [putN, if_pos hlt, hd]
    simp
  · rw [if_neg hlt] at h
    obtain ⟨q, hN, hM, hU, hU2, hq, _⟩ := getFrom_inv r 0 _ N U (by omega) h
    refine ⟨by omega, by omega, hM, by omega, by omega, ?_⟩
    have e1 : N - (2 ^ s.toNat - 1) = q := by simp at hN; omega
    rw [putN, if_neg (by simp at hN; omega), e1, hq, show U = (U - (0 + 1)) + 1 by omega, List.take_succ_cons]
    congr 1
    rw [show c.toNat / 2 ^ s.toNat * 2 ^ s.toNat + (2 ^ s.toNat - 1) = c.toNat by omega]
    simp
theorem put_high (c : UInt8) (s : Nat) : (c.toNat / 2 ^ s * 2 ^ s) % 2 ^ s = 0 ∧ c.toNat / 2 ^ s * 2 ^ s ≤ 255 := by
  refine ⟨Nat.mul_mod_left _ _, ?_⟩
  have := Nat.div_mul_le_self c.toNat (2 ^ s)
  have := c.toNat_lt
  omega
theorem cont_len : ∀ (j m : Nat), m < 128 ^ (j + 1) → (cont m).length ≤ j + 1 := by
  intro j
  induction j with
  | zero => intro m h; rw [cont_last (by omega)]; simp
  | succ j ih =>
    intro m h
    by_cases h1 : m < 128
    · rw [cont_last h1]; simp
    · rw [cont_more h1, List.length_cons]
      have := ih (m / 128) (by
        rw [pow128_succ] at h
        exact Nat.div_lt_of_lt_mul (by rw [Nat.mul_comm]; exact h))
      omega
theorem putN_len6 (n t : Nat) (h : n ≤ 2147483647) (f : Nat := 0) : (putN n t f).length ≤ 6 := by
  unfold putN
  split
  · simp
  · rw [List.length_cons]
    have := cont_len 4 (n - (2 ^ t - 1)) (by omega)
    omega
end Go.Proofs.YtbgnggkgmeagkaaGreatDoor
