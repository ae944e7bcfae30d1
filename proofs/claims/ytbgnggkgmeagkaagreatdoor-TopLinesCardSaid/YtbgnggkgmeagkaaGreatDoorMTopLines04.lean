/-
  slices.Concat at []uint8, whatever slices it is handed; slices.Grow of nil. Condition: the bound on the bytes.
  Frames as bytes: the contracts of frame.Encode, of the reference's Frame, of slices.Clone. Condition: the bound on the body's length.
  A table behind a pointer: its words, the contracts of Len, Size, Max, New. Condition: none but what the table's own words say.
-/
import Derived.Test.YtbgnggkgmeagkaaGreatDoorMTopLines03
import Derived.Lib.AppendZeros
import Derived.Lib.SliceRun
import Derived.Deep.RegionHeld3
import Derived.Deep.DrawnRows
import Derived.Deep.RegionLaw
import Derived.Deep.LoopGhost
set_option linter.unusedSimpArgs false
set_option linter.unusedVariables false
namespace Go.Proofs.YtbgnggkgmeagkaaGreatDoor
open Go.RowKit

set_option maxRecDepth 100000 in
set_option maxHeartbeats 1000000 in
theorem growB_any (n : Nat) (hn : n * 1 ≤ 140737488355328) (w : World) :
    Calls Tryz.prog 211 #[.slice none 0 0, .int .i64 (n : Int)] w fun e w' => ∃ v, e = .returned v ∧ w'.ownsRow w.heap.size 5 1 v 0 [] ∧ Below w.heap.size w w' := by
  rcases Nat.eq_zero_or_pos n with rfl | h0
  · go_enter Tryz.func211, Tryz.ntmps211
    go_wp2
    go_ret
    exact ⟨_, rfl, World.ownsRow_nil _ _ _ _, Below.refl _ _⟩
  · obtain ⟨i0, hi, hz0, hz1, hz2⟩ := info_parts u8_info
    have hneg : ¬ ((n : Int) < 0) := by omega
    have hpos : (0 : Int) < (n : Int) := by omega
    have hG := grownCap_ge w n 0 5
    have hG63 := grownCap_le_maxLen w n 0 5 (by unfold maxLen; omega)
    have hrun := fun ty => Lib.run_append_nil_zeros (P := Tryz.prog) w 23 3 ty 5 i0 (.int .u8 0 : Value) .i64 .i64 Tryz.underlying23 Tryz.underlying3 hi hz0 n h0 (by omega) (by omega) (by rw [hz2]; omega)
    obtain ⟨G, hGe⟩ : ∃ G, grownCap w n 0 5 = G := ⟨_, rfl⟩
    rw [hGe] at hG hG63 hrun
    obtain ⟨CS, hCS⟩ : ∃ CS, Builtin.zeroCells (.int .u8 0 : Value).cells n ++ Builtin.zeroCells (.int .u8 0 : Value).cells (G - n) = CS := ⟨_, rfl⟩
    have hsz : CS.size = G * 1 := by
      rw [← hCS, Array.size_append, zeroCells_size, zeroCells_size]
      have : (.int .u8 0 : Value).cells.size = 1 := by rfl
      rw [this, ← Nat.add_mul]
      congr 1
      omega
    rw [hCS] at hrun
    have HSZ := Lib.hid hsz
    have hGI : (0 : Int) ≤ (G : Int) := by omega
    unfold maxLen at hG63
    clear hi hz0 hz1 hz2 hGe hCS hsz
    go_enter Tryz.func211, Tryz.ntmps211
    go_wp2_with (at_builtin; refine Lib.wpList_append_run _ rfl _ _ _ _ rfl _ _ rfl rfl _ _ (hrun _) ?_)
    go_ret
    refine ⟨_, rfl, ⟨rfl, .inr ⟨w.heap.size, G, CS, rfl, Nat.le_refl _, heap_alloc_new _ _, by omega, by unfold maxLen; omega, HSZ.out, by simp⟩⟩, ((Below.refl _ _).drew).alloc (Nat.le_refl _) _⟩

set_option maxRecDepth 100000 in
set_option maxHeartbeats 4000000 in
theorem concatB_any (ps : List Part) (pb : Nat) (w : World) (hps : PartsAt w 1 pb ps) (hm : total ps * 1 ≤ 140737488355328) (hl : ps.length ≤ 1000000) :
    Calls Tryz.prog 158 #[.slice (some ⟨pb, 0, none⟩) ps.length ps.length] w fun e w' => ∃ v, e = .returned v ∧ w'.ownsRow w.heap.size 5 1 v (total ps) (flat ps) ∧ Below w.heap.size w w' := by
  obtain ⟨i0, hi, hz0, hz1, hz2⟩ := info_parts u8_info
  have HI := Lib.hid hi
  have HZ0 := Lib.hid hz0
  have HZ1 := Lib.hid hz1
  have HZ2 := Lib.hid hz2
  have HP := Lib.hid hps
  clear hi hz0 hz1 hz2 hps
  go_enter Tryz.func158, Tryz.ntmps158
  go_wp2
  go_loop [3, 11] (fun t i => ∃ k : Nat, k ≤ ps.length ∧ i = .int .i64 (k : Int) ∧ t = .int .i64 ((total (ps.take k) : Nat) : Int)) (fun _ i => ps.length - (intOf i).toNat)
  case atStart => exact ⟨0, Nat.zero_le _, rfl, rfl⟩
  case round =>
    obtain ⟨k, hk, rfl, rfl⟩ := hrel
    have hle := total_take_le ps k
    have hb : total (ps.take k) ≤ 140737488355328 := by omega
    by_cases hlt : k < ps.length
    · have hsn := total_take_succ ps k hlt
      have hle2 := total_take_le ps (k + 1)
      obtain ⟨c0, _⟩ := HP.out k hlt
      have HS := Lib.hid hsn
      have hn : ps[k].n ≤ 140737488355328 := by omega
      clear hsn
      generalize ps[k].n = n at *
      generalize ps[k].A = A at *
      generalize ps[k].c = c at *
      go_wp2
      go_round
      case rel => exact ⟨k + 1, by omega, by go_num, by rw [HS.out]; go_num⟩
      case measure => simp [intOf]; omega
    · have hke : ps.take k = ps := List.take_of_length_le (by omega)
      rw [hke]
      clear hke
      go_wp2_with (go_at_call 211; refine (growB_any _ (by omega) _).mono ?_; rintro e w1 ⟨v, rfl, hown, hb1⟩)
      go_loopw [6, 27] (fun v i wr => ∃ k : Nat, k ≤ ps.length ∧ i = .int .i64 (k : Int) ∧ Hid (wr.ownsRow w.heap.size 5 1 v (total (ps.take k)) (flat (ps.take k)) ∧ Below w.heap.size w wr)) (fun _ i _ => ps.length - (intOf i).toNat)
      case atStart => exact ⟨0, Nat.zero_le _, rfl, hown, hb1⟩
      case round =>
        obtain ⟨k, hk, rfl, HR⟩ := hrel
        clear hown hb1
        by_cases hlt : k < ps.length
        · obtain ⟨c0, hr⟩ := HP.out k hlt
          have hsn := total_take_succ ps k hlt
          have hfl := flat_take_succ ps k hlt
          have hle2 := total_take_le ps (k + 1)
          have hone := (HP.out k hlt).2.2
          obtain ⟨ho, hbw⟩ := HR.out
          have c1 := cell_belowP hbw c0
          have hr2 := hr.1.below hbw
          have HS := Lib.hid hsn
          have HF := Lib.hid hfl
          have HO := Lib.hid ho
          have hsum : total (ps.take k) + ps[k].n ≤ total ps := by omega
          have hbs := hbw.size
          have hby : (total (ps.take k) + ps[k].n) * 1 ≤ total ps * 1 := Nat.mul_le_mul_right _ hsum
          clear hsn hfl ho hr
          generalize ps[k].n = n at *
          generalize ps[k].A = A at *
          generalize ps[k].c = c at *
          generalize ps[k].xs = xs at *
          clear c0
          go_wp2_with (at_builtin; refine wpList_append_any _ rfl _ _ 23 rfl w.heap.size 5 i0 (.int .u8 0 : Value) 1 1 Tryz.underlying23 HI.out HZ0.out HZ1.out HZ2.out rfl (by decide) _ _ _ rfl HO.out w.heap.size A n c xs rfl hr2 hone (by unfold maxLen; omega) (by omega) hbs ?_; intro v2 w2 hown2 hg2 _)
          go_roundw
          case rel => exact ⟨k + 1, by omega, by go_num, by rw [HS.out, HF.out]; exact hown2, below_append hbw HO.out hg2 hbs⟩
          case measure => simp [intOf]; omega
        · have hke : ps.take k = ps := List.take_of_length_le (by omega)
          rw [hke] at HR
          clear hke
          go_wp2
          go_ret
          exact ⟨_, rfl, HR.out.1, HR.out.2⟩
end Go.Proofs.YtbgnggkgmeagkaaGreatDoor
namespace Go.Proofs.YtbgnggkgmeagkaaGreatDoor
open Go.RowKit

/-- A frame as a value, its body at an address. -/
def frV (f : Frm) (A : Option Addr) (c : Nat) : Value := .agg #[.int .i64 f.K, .int .i64 f.F, .int .i64 f.S, .slice A f.body.length c]

set_option maxHeartbeats 1000000 in
theorem octet_any (n : Int) (w : World) :
    Calls Tryz.prog 157 #[.int .i64 n] w fun e w' => e = .returned (.bool (decide (0 ≤ n ∧ n ≤ 255))) ∧ w = w' := by
  by_cases h0 : 0 ≤ n
  · by_cases h : n ≤ 255
    · have e : decide (0 ≤ n ∧ n ≤ 255) = true := by simp [h0, h]
      rw [e]
      clear e
      go_enter Tryz.func157, Tryz.ntmps157
      go_wp2
      go_ret
      exact ⟨by simp [h], rfl⟩
    · have e : decide (0 ≤ n ∧ n ≤ 255) = false := by simp [h]
      rw [e]
      clear e
      have h2 : decide (n ≤ 255) = false := by simp [h]
      go_enter Tryz.func157, Tryz.ntmps157
      go_wp2
      go_ret
      exact ⟨by simp [h], rfl⟩
  · have e : decide (0 ≤ n ∧ n ≤ 255) = false := by simp [h0]
    rw [e]
    clear e
    go_enter Tryz.func157, Tryz.ntmps157
    go_wp2
    go_ret
    exact ⟨rfl, rfl⟩

set_option maxRecDepth 100000 in
theorem clone_nil (w : World) (c : Nat) (hc : c = 0) :
    Calls Tryz.prog 46 #[.slice none 0 c] w fun e w' => e = .returned (.slice none 0 0) ∧ w = w' := by
  subst hc
  have q := Lib.run_eql_slice_nil (P := Tryz.prog) w 23 5 none 0 0 0 0 Tryz.underlying23
  go_enter Tryz.func46, Tryz.ntmps46
  go_wp2
  go_ret
  exact ⟨rfl, rfl⟩
set_option maxRecDepth 100000 in
set_option maxHeartbeats 1000000 in
theorem clone_some (a : Addr) (l : List UInt8) (n c : Nat) (hn : n = l.length) (hm : l.length ≤ 140737488355328) (w : World) (hr : Reads w w.heap.size 1 (some a) l.length (bs l)) :
    Calls Tryz.prog 46 #[.slice (some a) n c] w fun e w' => ∃ v, e = .returned v ∧ w'.ownsRow w.heap.size 5 1 v l.length (bs l) ∧ Below w.heap.size w w' := by
  subst hn
  have ho := own_new w #[] 5 [] 0 rfl rfl (by decide)
  have hb := (Below.refl w.heap.size w).alloc (Nat.le_refl _) (.cells #[] 5)
  have HR := Lib.hid (hr.below hb)
  have HO := Lib.hid ho
  have HB := Lib.hid hb
  clear hr ho hb
  have q := Lib.run_eql_slice_nil (P := Tryz.prog) w 23 5 (some a) l.length c 0 0 Tryz.underlying23
  go_enter Tryz.func46, Tryz.ntmps46
  go_wp2_with (at_builtin; refine wpList_join rfl _ _ rfl w.heap.size _ _ _ rfl HO.out _ _ _ _ (bs l) rfl HR.out (bs_one l) (by omega) (by simp) ?_; intro v w2 hown2 hb2)
  go_ret
  rw [Nat.zero_add, List.nil_append] at hown2
  exact ⟨_, rfl, hown2, HB.out.trans hb2⟩
/-- A clone, whatever it is of: bytes of its own. -/
theorem clone_any (A : Option Addr) (l : List UInt8) (n c : Nat) (hn : n = l.length) (hc : A = none → c = 0) (hm : l.length ≤ 140737488355328) (w : World) (hr : Reads w w.heap.size 1 A l.length (bs l)) :
    Calls Tryz.prog 46 #[.slice A n c] w fun e w' => ∃ A' c', e = .returned (.slice A' l.length c') ∧ w'.ownsRow w.heap.size 5 1 (.slice A' l.length c') l.length (bs l) ∧ Below w.heap.size w w' := by
  cases A with
  | none =>
    have h0 : l.length = 0 := by
      rcases Nat.eq_zero_or_pos l.length with h | h
      · exact h
      · obtain ⟨ad, e, _⟩ := hr.2 h
        cases e
    have hl : l = [] := List.eq_nil_of_length_eq_zero h0
    subst hl
    subst hn
    refine (clone_nil w c (hc rfl)).mono ?_
    rintro e w' ⟨rfl, rfl⟩
    exact ⟨none, 0, rfl, World.ownsRow_nil _ _ _ _, Below.refl _ _⟩
  | some a =>
    refine (clone_some a l n c hn hm w hr).mono ?_
    rintro e w' ⟨v, rfl, hown, hb⟩
    obtain ⟨A', c', rfl, hg⟩ := gave_of_own hown hb
    exact ⟨A', c', rfl, hown, hb⟩

theorem byte_of {x : Int} (h0 : 0 ≤ x) (h : x ≤ 255) : bs [UInt8.ofNat x.toNat] = [.int .u8 x] := by
  simp only [bs, List.map_cons, List.map_nil, UInt8.toNat_ofNat']
  have : ((x.toNat % 2 ^ 8 : Nat) : Int) = x := by omega
  rw [this]
theorem frame_bad_vals (f : Frm) (h : frmE f = 1) : frmL f = [] := by rw [frmL, if_neg (by omega)]
theorem wrap_u8 {x : Int} (h0 : 0 ≤ x) (h : x ≤ 255) : IntKind.u8.wrap x = x := by
  have : x % 256 = x := Int.emod_eq_of_lt h0 (by omega)
  simp [IntKind.wrap, IntKind.bits, IntKind.signed]
  omega


theorem frm_bad {f : Frm} (h : ¬ frmOk f) : frmE f = 1 := by rw [frmE, if_neg h]
theorem frm_big {f : Frm} (h : frmOk f) (h2 : 1024 < f.body.length) : frmE f = 4 := by rw [frmE, if_pos h, if_pos h2]
theorem frm_fine {f : Frm} (h : frmOk f) (h2 : ¬ 1024 < f.body.length) : frmE f = 0 := by rw [frmE, if_pos h, if_neg h2]
theorem frmL_no {f : Frm} (h : frmE f ≠ 0) : frmL f = [] := by rw [frmL, if_neg h]
/-- The parts that Concat is handed. -/
def frParts (f : Frm) (A1 : Option Addr) (c1 : Nat) (x : Nat) (A2 : Option Addr) (c2 : Nat) (A : Option Addr) (c : Nat) : List Part :=
  [⟨A1, 3, c1, bs (beBytes 3 f.body.length)⟩, ⟨some ⟨x, 0, none⟩, 2, 2, [.int .u8 f.K, .int .u8 f.F]⟩, ⟨A2, 4, c2, bs (beBytes 4 f.S.toNat)⟩, ⟨A, f.body.length, c, bs f.body⟩]
theorem frParts_flat {f : Frm} (h : frmE f = 0) (A1 : Option Addr) (c1 : Nat) (x : Nat) (A2 : Option Addr) (c2 : Nat) (A : Option Addr) (c : Nat) :
    total (frParts f A1 c1 x A2 c2 A c) = (frmL f).length ∧ flat (frParts f A1 c1 x A2 c2 A c) = bs (frmL f) := by
  obtain ⟨⟨k0, k1, f0, f1, _⟩, _⟩ := frmE_zero h
  rw [frmL_length h, frmL_is h]
  constructor
  · simp [total, frParts]
    omega
  · have e1 := byte_of k0 k1
    have e2 := byte_of f0 f1
    simp only [flat, frParts, List.flatMap_cons, List.flatMap_nil, List.append_nil]
    unfold frmH
    rw [bs_append, bs_append, bs_append, List.append_assoc, List.append_assoc]
    rw [show bs [UInt8.ofNat f.K.toNat, UInt8.ofNat f.F.toNat] = [.int .u8 f.K, .int .u8 f.F] by
      have : bs [UInt8.ofNat f.K.toNat, UInt8.ofNat f.F.toNat] = bs [UInt8.ofNat f.K.toNat] ++ bs [UInt8.ofNat f.F.toNat] := rfl
      rw [this, e1, e2]
      rfl]
theorem u8_one (l : List Value) (h : ∀ u ∈ l, ∃ x : Int, u = .int .u8 x) : ∀ u ∈ l, u.oneCell' = true := fun u hu => by
  obtain ⟨x, rfl⟩ := h u hu
  rfl

set_option maxRecDepth 100000 in
set_option maxHeartbeats 4000000 in
theorem fenc_bad (f : Frm) (A : Option Addr) (c : Nat) (hE : frmE f ≠ 0) (hm : f.body.length ≤ 140737488355328) (w : World) :
    Calls Tryz.prog 104 #[frV f A c] w fun e w' => ∃ A' c', e = .returned (.tuple #[.slice A' (frmL f).length c', errV (frmE f)]) ∧ Gave w w' (frmL f) A' c' := by
  rw [frmL_no hE]
  have hb0 := (Below.refl w.heap.size w).alloc (Nat.le_refl _) (.cells #[.int .i64 f.K, .int .i64 f.F, .int .i64 f.S, .slice A f.body.length c] 134)
  have hB0 : Blk (w.alloc (.cells #[.int .i64 f.K, .int .i64 f.F, .int .i64 f.S, .slice A f.body.length c] 134)) w.heap.size 134 #[.int .i64 f.K, .int .i64 f.F, .int .i64 f.S, .slice A f.body.length c] := Blk.new w _ _
  have HB0 := Lib.hid hB0
  have HBB := Lib.hid hb0
  obtain ⟨h1, h2, h3⟩ | ⟨h1, h2, h3⟩ | ⟨h1, h2, h3⟩ | ⟨h1, h2, h3, h4⟩ :
      (¬ (0 ≤ f.K ∧ f.K ≤ 255) ∧ frmE f = 1 ∧ True) ∨ ((0 ≤ f.K ∧ f.K ≤ 255) ∧ ¬ (0 ≤ f.F ∧ f.F ≤ 255) ∧ frmE f = 1) ∨
      ((0 ≤ f.K ∧ f.K ≤ 255) ∧ (0 ≤ f.F ∧ f.F ≤ 255) ∧ bigE f.S 4 = 1 ∧ frmE f = 1) ∨ ((0 ≤ f.K ∧ f.K ≤ 255) ∧ (0 ≤ f.F ∧ f.F ≤ 255) ∧ (bigE f.S 4 = 0 ∧ 1024 < f.body.length) ∧ frmE f = 4) := by
    by_cases hK : 0 ≤ f.K ∧ f.K ≤ 255
    · by_cases hF : 0 ≤ f.F ∧ f.F ≤ 255
      · by_cases hS : bigOk f.S 4
        · have hok : frmOk f := ⟨hK.1, hK.2, hF.1, hF.2, hS.2.2.1, by simpa [most] using hS.2.2.2⟩
          have h10 : 1024 < f.body.length := by
            rcases Nat.lt_or_ge 1024 f.body.length with h | h
            · exact h
            · exact absurd (frm_fine hok (by omega)) hE
          exact .inr (.inr (.inr ⟨hK, hF, ⟨by rw [bigE, if_pos hS], h10⟩, frm_big hok h10⟩))
        · exact .inr (.inr (.inl ⟨hK, hF, by rw [bigE, if_neg hS], frm_bad fun h => hS ⟨by omega, by omega, h.2.2.2.2.1, by simpa [most] using h.2.2.2.2.2⟩⟩))
      · exact .inr (.inl ⟨hK, hF, frm_bad fun h => hF ⟨h.2.2.1, h.2.2.2.1⟩⟩)
    · exact .inl ⟨hK, frm_bad fun h => hK ⟨h.1, h.2.1⟩, trivial⟩
  · rw [h2, errV_pos (by decide)]
    have hk : decide (0 ≤ f.K ∧ f.K ≤ 255) = false := decide_eq_false h1
    clear hB0 hb0 hE h1 h2
    go_enter Tryz.func104, Tryz.ntmps104
    unfold frV
    go_wp2_with fail
    refine (wbig_any f.S 4 _).mono ?_
    rintro e w1 ⟨A1, c1, rfl, hg1⟩
    have hblk := HB0.out.below hg1.2.2 HB0.out.lt
    have q0 := hblk.cell 0
    have HG := Lib.hid (HBB.out.trans (hg1.2.2.mono HBB.out.size))
    clear hg1 hblk
    go_wp2_with (go_at_call 157; refine (octet_any _ _).mono ?_; rintro e w' ⟨rfl, rfl⟩)
    go_ret2
    exact ⟨none, 0, rfl, Nat.le_refl _, Reads.none_, HG.out⟩
  · rw [h3, errV_pos (by decide)]
    have hk : decide (0 ≤ f.K ∧ f.K ≤ 255) = true := decide_eq_true h1
    have hf : decide (0 ≤ f.F ∧ f.F ≤ 255) = false := decide_eq_false h2
    clear hB0 hb0 hE h1 h2
    go_enter Tryz.func104, Tryz.ntmps104
    unfold frV
    go_wp2_with fail
    refine (wbig_any f.S 4 _).mono ?_
    rintro e w1 ⟨A1, c1, rfl, hg1⟩
    have hblk := HB0.out.below hg1.2.2 HB0.out.lt
    have q0 := hblk.cell 0
    have q1 := hblk.cell 1
    have HG := Lib.hid (HBB.out.trans (hg1.2.2.mono HBB.out.size))
    clear hg1 hblk
    go_wp2_with (go_at_call 157; refine (octet_any _ _).mono ?_; rintro e w' ⟨rfl, rfl⟩)
    go_ret2
    exact ⟨none, 0, rfl, Nat.le_refl _, Reads.none_, HG.out⟩
  · rw [h3.2, errV_pos (by decide)]
    have hk : decide (0 ≤ f.K ∧ f.K ≤ 255) = true := decide_eq_true h1
    have hf : decide (0 ≤ f.F ∧ f.F ≤ 255) = true := decide_eq_true h2
    have HE := Lib.hid (show errV (bigE f.S 4) = .iface 95 (.int .i64 ((1 : Nat) : Int)) by rw [h3.1, errV_pos (by decide)])
    clear hB0 hb0 hE h1 h2
    go_enter Tryz.func104, Tryz.ntmps104
    unfold frV
    go_wp2_with fail
    refine (wbig_any f.S 4 _).mono ?_
    rintro e w1 ⟨A1, c1, rfl, hg1⟩
    rw [HE.out]
    have hblk := HB0.out.below hg1.2.2 HB0.out.lt
    have q0 := hblk.cell 0
    have q1 := hblk.cell 1
    have HG := Lib.hid (HBB.out.trans (hg1.2.2.mono HBB.out.size))
    clear hg1 hblk
    go_wp2_with (go_at_call 157; refine (octet_any _ _).mono ?_; rintro e w' ⟨rfl, rfl⟩)
    go_ret2
    exact ⟨none, 0, rfl, Nat.le_refl _, Reads.none_, HG.out⟩
  · rw [h4, errV_pos (by decide)]
    have hk : decide (0 ≤ f.K ∧ f.K ≤ 255) = true := decide_eq_true h1
    have hf : decide (0 ≤ f.F ∧ f.F ≤ 255) = true := decide_eq_true h2
    have HE := Lib.hid (show errV (bigE f.S 4) = .nilIface by rw [h3.1, errV_zero])
    have h10 := h3.2
    clear hB0 hb0 hE h1 h2
    go_enter Tryz.func104, Tryz.ntmps104
    unfold frV
    go_wp2_with fail
    refine (wbig_any f.S 4 _).mono ?_
    rintro e w1 ⟨A1, c1, rfl, hg1⟩
    rw [HE.out]
    have hblk := HB0.out.below hg1.2.2 HB0.out.lt
    have q0 := hblk.cell 0
    have q1 := hblk.cell 1
    have q3 := hblk.cell 3
    have HG := Lib.hid (HBB.out.trans (hg1.2.2.mono HBB.out.size))
    clear hg1 hblk
    go_wp2_with (go_at_call 157; refine (octet_any _ _).mono ?_; rintro e w' ⟨rfl, rfl⟩)
    go_ret2
    exact ⟨none, 0, rfl, Nat.le_refl _, Reads.none_, HG.out⟩

theorem frParts_at {W : World} {f : Frm} {A1 : Option Addr} {c1 x : Nat} {A2 : Option Addr} {c2 : Nat} {A : Option Addr} {c pb : Nat}
    (hp : Blk W pb 23 #[.slice A1 3 c1, .slice (some ⟨x, 0, none⟩) 2 2, .slice A2 4 c2, .slice A f.body.length c]) (h1 : Reads W W.heap.size 1 A1 3 (bs (beBytes 3 f.body.length)))
    (h2 : Blk W x 5 #[.int .u8 f.K, .int .u8 f.F]) (h3 : Reads W W.heap.size 1 A2 4 (bs (beBytes 4 f.S.toNat))) (h4 : Reads W W.heap.size 1 A f.body.length (bs f.body)) :
    PartsAt W 1 pb (frParts f A1 c1 x A2 c2 A c) := by
  intro k hk
  rcases k with _ | _ | _ | _ | k
  · exact ⟨hp.cell 0, h1, bs_one _⟩
  · refine ⟨hp.cell 1, ⟨rfl, fun _ => ⟨_, rfl, h2.lt, fun j u hu => ?_⟩⟩, ?_⟩
    · rw [Addr.add_lit]
      rcases j with _ | _ | j
      · rw [← hu]; exact h2.cell 0
      · rw [← hu]; exact h2.cell 1
      · simp [frParts] at hu
    · intro u hu
      simp [frParts] at hu
      rcases hu with rfl | rfl <;> rfl
  · exact ⟨hp.cell 2, h3, bs_one _⟩
  · exact ⟨hp.cell 3, h4, bs_one _⟩
  · exfalso
    simp [frParts] at hk
    omega

theorem own_down {w : World} {B B' size n : Nat} {e : TypeId} {v : Value} {xs : List Value} (h : w.ownsRow B e size v n xs) (hB : B' ≤ B) : w.ownsRow B' e size v n xs := by
  refine ⟨h.1, ?_⟩
  rcases h.2 with h0 | ⟨g, cap, cur, rfl, hb, hr⟩
  · exact .inl h0
  · exact .inr ⟨g, cap, cur, rfl, Nat.le_trans hB hb, hr⟩

set_option maxRecDepth 100000 in
set_option maxHeartbeats 4000000 in
theorem fenc_own (f : Frm) (A : Option Addr) (c : Nat) (hE : frmE f = 0) (w : World) (hr : Reads w w.heap.size 1 A f.body.length (bs f.body)) :
    Calls Tryz.prog 104 #[frV f A c] w fun e w' => ∃ A' c', e = .returned (.tuple #[.slice A' (frmL f).length c', errV (frmE f)]) ∧ Gave w w' (frmL f) A' c' ∧ w'.ownsRow w.heap.size 5 1 (.slice A' (frmL f).length c') (frmL f).length (bs (frmL f)) := by
  obtain ⟨⟨k0, k1, f0, f1, s0, s1⟩, hm⟩ := frmE_zero hE
  have hb0 := (Below.refl w.heap.size w).alloc (Nat.le_refl _) (.cells #[.int .i64 f.K, .int .i64 f.F, .int .i64 f.S, .slice A f.body.length c] 134)
  have hB0 : Blk (w.alloc (.cells #[.int .i64 f.K, .int .i64 f.F, .int .i64 f.S, .slice A f.body.length c] 134)) w.heap.size 134 #[.int .i64 f.K, .int .i64 f.F, .int .i64 f.S, .slice A f.body.length c] := Blk.new w _ _
  have HB0 := Lib.hid hB0
  have HBB := Lib.hid hb0
  have HR := Lib.hid hr
  have hb1 : bigOk f.S 4 := ⟨by omega, by omega, s0, by simpa [most] using s1⟩
  have hb2 : bigOk (f.body.length : Nat) 3 := ⟨by omega, by omega, by omega, by simp [most]; omega⟩
  have e1 : bigL f.S 4 = beBytes 4 f.S.toNat := by rw [bigL, if_pos hb1]; rfl
  have e2 : bigL (f.body.length : Nat) 3 = beBytes 3 f.body.length := by rw [bigL, if_pos hb2]; rfl
  have HE1 := Lib.hid (show errV (bigE f.S 4) = .nilIface by rw [bigE, if_pos hb1, errV_zero])
  have HE2 := Lib.hid (show errV (bigE (f.body.length : Nat) 3) = .nilIface by rw [bigE, if_pos hb2, errV_zero])
  have hk : decide (0 ≤ f.K ∧ f.K ≤ 255) = true := decide_eq_true ⟨k0, k1⟩
  have hf : decide (0 ≤ f.F ∧ f.F ≤ 255) = true := decide_eq_true ⟨f0, f1⟩
  have hkw := wrap_u8 k0 k1
  have hfw := wrap_u8 f0 f1
  have l4 : (beBytes 4 f.S.toNat).length = 4 := beBytes_length _ _
  have l3 : (beBytes 3 f.body.length).length = 3 := beBytes_length _ _
  rw [hE, errV_zero]
  have HE := Lib.hid hE
  have h10 : ¬ 1024 < f.body.length := by omega
  clear hB0 hb0 hr hE hb1 hb2
  go_enter Tryz.func104, Tryz.ntmps104
  unfold frV
  go_wp2_with fail
  refine (wbig_any f.S 4 _).mono ?_
  rintro e w1 ⟨A1, c1, rfl, hg1⟩
  rw [HE1.out]
  rw [e1] at hg1 ⊢
  rw [l4]
  have hblk := HB0.out.below hg1.2.2 HB0.out.lt
  have q0 := hblk.cell 0
  have q1 := hblk.cell 1
  have q3 := hblk.cell 3
  have HG := Lib.hid hg1
  have HK := Lib.hid hblk
  clear hg1 hblk
  go_wp2_with (go_at_call 157; refine (octet_any _ _).mono ?_; rintro e w' ⟨rfl, rfl⟩)
  refine (wbig_any (f.body.length : Nat) 3 _).mono ?_
  rintro e w2 ⟨A2, c2, rfl, hg2⟩
  rw [HE2.out]
  rw [e2] at hg2 ⊢
  rw [l3]
  have hblk := HK.out.below hg2.2.2 HK.out.lt
  have q0 := hblk.cell 0
  have q1 := hblk.cell 1
  have q3 := hblk.cell 3
  have HG2 := Lib.hid hg2
  have HK2 := Lib.hid hblk
  have hlt2 := hblk.lt
  clear hg2 hblk
  go_wp2_with fail
  have hB2 := (Below.refl w2.heap.size w2).alloc (Nat.le_refl _) (.cells #[.int .u8 f.K, .int .u8 f.F] 5)
  have hB3 := hB2.alloc hB2.size (.cells #[.slice A2 3 c2, .slice (some ⟨w2.heap.size, 0, none⟩) 2 2, .slice A1 4 c1, .slice A f.body.length c] 23)
  have hps := frParts_at (f := f) (A1 := A2) (c1 := c2) (x := w2.heap.size) (A2 := A1) (c2 := c1) (A := A) (c := c) (pb := w2.heap.size + 1)
    (W := (w2.alloc (.cells #[.int .u8 f.K, .int .u8 f.F] 5)).alloc (.cells #[.slice A2 3 c2, .slice (some ⟨w2.heap.size, 0, none⟩) 2 2, .slice A1 4 c1, .slice A f.body.length c] 23))
    (by have := Blk.new (w2.alloc (.cells #[.int .u8 f.K, .int .u8 f.F] 5)) 23 #[.slice A2 3 c2, .slice (some ⟨w2.heap.size, 0, none⟩) 2 2, .slice A1 4 c1, .slice A f.body.length c]; rwa [World.size_alloc] at this)
    (by have := HG2.out.2.1; rw [l3] at this; exact (this.below hB3).more hB3.size) ((Blk.new w2 5 _).alloc _)
    (by have := HG.out.2.1; rw [l4] at this; exact ((this.below HG2.out.2.2).more HG2.out.2.2.size).below hB3 |>.more hB3.size)
    (((((HR.out.below HBB.out).more HBB.out.size).below HG.out.2.2).more HG.out.2.2.size |>.below HG2.out.2.2 |>.more HG2.out.2.2.size).below hB3 |>.more hB3.size)
  have hfl := frParts_flat HE.out A2 c2 w2.heap.size A1 c1 A c
  have hfl2 := frmL_length HE.out
  refine (concatB_any _ _ _ hps (by rw [hfl.1]; omega) (by simp [frParts])).mono ?_
  rintro e w3 ⟨v, rfl, hown, hb3⟩
  rw [hfl.1, hfl.2] at hown
  obtain ⟨A', c', rfl, hg⟩ := gave_of_own hown hb3
  have hs1 := HG.out.2.2.size
  have hs2 := HG2.out.2.2.size
  have hs0 := HBB.out.size
  have HOWN := Lib.hid (own_down hown (B' := w.heap.size) (by simp; omega))
  have HGG := Lib.hid hg
  have HBE := Lib.hid (((HBB.out.trans (HG.out.2.2.mono HBB.out.size)).trans (HG2.out.2.2.mono (Nat.le_trans HBB.out.size HG.out.2.2.size))).trans (hB3.mono (Nat.le_trans HBB.out.size (Nat.le_trans HG.out.2.2.size HG2.out.2.2.size))))
  clear hps hfl hfl2 hg hown hb3 hB2 hB3 hs0 hs1 hs2
  go_wp2
  go_ret2
  exact ⟨A', c', rfl, ⟨HGG.out.1, HGG.out.2.1, HBE.out.trans (HGG.out.2.2.mono HBE.out.size)⟩, HOWN.out⟩
theorem fenc_fine (f : Frm) (A : Option Addr) (c : Nat) (hE : frmE f = 0) (w : World) (hr : Reads w w.heap.size 1 A f.body.length (bs f.body)) :
    Calls Tryz.prog 104 #[frV f A c] w fun e w' => ∃ A' c', e = .returned (.tuple #[.slice A' (frmL f).length c', errV (frmE f)]) ∧ Gave w w' (frmL f) A' c' := by
  refine (fenc_own f A c hE w hr).mono ?_
  rintro e w' ⟨A', c', h1, h2, _⟩
  exact ⟨A', c', h1, h2⟩
theorem fenc_any (f : Frm) (A : Option Addr) (c : Nat) (hm : f.body.length ≤ 140737488355328) (w : World) (hr : Reads w w.heap.size 1 A f.body.length (bs f.body)) :
    Calls Tryz.prog 104 #[frV f A c] w fun e w' => ∃ A' c', e = .returned (.tuple #[.slice A' (frmL f).length c', errV (frmE f)]) ∧ Gave w w' (frmL f) A' c' := by
  by_cases hE : frmE f = 0
  · exact fenc_fine f A c hE w hr
  · exact fenc_bad f A c hE hm w
end Go.Proofs.YtbgnggkgmeagkaaGreatDoor
namespace Go.Proofs.YtbgnggkgmeagkaaGreatDoor
open Go.RowKit
attribute [local go_sem ↓] Go.wp_at_zero Go.wp_at_succ

/-- A table: its block, its row, what lies in it. -/
structure Tab (w : World) (g : Nat) (A : Option Addr) (c : Nat) (xs : List Fld) (mx : Nat) : Prop where
  blk : Blk w g 168 #[.slice A xs.length c, .int .i64 (wt xs : Nat), .int .i64 (mx : Nat)]
  own : w.ownsRow 0 41 2 (.slice A xs.length c) xs.length (fvs xs)
  wt : wt xs ≤ 4096
  mx : mx ≤ 4096
/-- The blocks that are a table's own. -/
def tOwn (g : Nat) (A : Option Addr) (k : Nat) : Prop := k = g ∨ ∃ a, A = some a ∧ k = a.block
/-- All but these blocks lies as it lay. -/
structure Keep (S : Nat → Prop) (w w' : World) : Prop where
  os : w'.os = w.os
  tape : w'.tape = w.tape
  output : w'.output = w.output
  size : w.heap.size ≤ w'.heap.size
  block : ∀ k, k < w.heap.size → ¬ S k → w'.heap[k]? = w.heap[k]?
section
variable {S T : Nat → Prop} {w w' w1 w2 : World}
theorem Keep.refl (S : Nat → Prop) (w : World) : Keep S w w := ⟨rfl, rfl, rfl, Nat.le_refl _, fun _ _ _ => rfl⟩
theorem Keep.of_below (h : Below w.heap.size w w') : Keep S w w' := ⟨h.os, h.tape, h.output, h.size, fun k hk _ => h.block k hk⟩
theorem Keep.trans (h : Keep S w w1) (k : Keep T w1 w2) (hT : ∀ i, T i → S i ∨ w.heap.size ≤ i) : Keep S w w2 :=
  ⟨k.os.trans h.os, k.tape.trans h.tape, k.output.trans h.output, Nat.le_trans h.size k.size, fun i hi hS =>
    (k.block i (Nat.lt_of_lt_of_le hi h.size) fun hTi => by rcases hT i hTi with h1 | h1; exact hS h1; omega).trans (h.block i hi hS)⟩
theorem Keep.mono (h : Keep S w w') (hT : ∀ i, S i → T i) : Keep T w w' := ⟨h.os, h.tape, h.output, h.size, fun i hi hS => h.block i hi fun hs => hS (hT i hs)⟩
theorem Keep.below {B : Nat} (h : Keep S w w') (hB : B ≤ w.heap.size) (hS : ∀ i, S i → B ≤ i) : Below B w w' :=
  ⟨h.os, h.tape, h.output, h.size, fun k hk => h.block k (by omega) fun hs => by have := hS k hs; omega⟩
theorem Keep.drew (h : Keep S w w') : Keep S w w'.drew := ⟨h.os, h.tape, h.output, h.size, h.block⟩
theorem Keep.drewN (h : Keep S w w') (n : Nat) : Keep S w (w'.drewN n) := ⟨h.os, h.tape, h.output, h.size, h.block⟩
theorem Keep.alloc (h : Keep S w w') (o : Obj) : Keep S w (w'.alloc o) :=
  ⟨h.os, h.tape, h.output, Nat.le_trans h.size (by simp), fun i hi hS => (Below.heap_alloc w' o i (Nat.lt_of_lt_of_le hi h.size)).trans (h.block i hi hS)⟩
theorem Keep.setCell (h : Keep S w w') {p : Addr} (hp : S p.block ∨ w.heap.size ≤ p.block) (u : Value) : Keep S w (w'.setCell p u) :=
  ⟨h.os, h.tape, h.output, by simpa [World.setCell] using h.size, fun i hi hS => (Below.heap_setCell w' p u i (by
    rintro rfl
    rcases hp with hp | hp
    · exact hS hp
    · omega)).trans (h.block i hi hS)⟩
theorem Keep.grown (h : Keep S w w1) {row : Option Nat} (hg : w1.grownBy w2 row) (hr : ∀ k, row = some k → S k ∨ w.heap.size ≤ k) : Keep S w w2 :=
  ⟨hg.os.trans h.os, hg.tape.trans h.tape, hg.output.trans h.output, Nat.le_trans h.size hg.size, fun i hi hS =>
    (hg.block i (Nat.lt_of_lt_of_le hi h.size) fun e => by rcases hr i e.symm with h1 | h1; exact hS h1; omega).trans (h.block i hi hS)⟩
theorem Blk.keep {g : Nat} {t : TypeId} {cs : Array Value} (h : Blk w g t cs) (hk : Keep S w w') (hS : ¬ S g) : Blk w' g t cs := (hk.block g h.lt hS).trans h
theorem own_keep {B size n : Nat} {e : TypeId} {A : Option Addr} {c : Nat} {xs : List Value} (h : w.ownsRow B e size (.slice A n c) n xs) (hk : Keep S w w') (hS : ∀ a, A = some a → ¬ S a.block) : w'.ownsRow B e size (.slice A n c) n xs := by
  refine ⟨h.1, ?_⟩
  rcases h.2 with h0 | ⟨g, cap, cur, hv, hB, hh, hr⟩
  · exact .inl h0
  · refine .inr ⟨g, cap, cur, hv, hB, ?_, hr⟩
    injection hv with hA
    exact (hk.block g (Blk.lt (t := e) (cs := cur) hh) (hS _ hA)).trans hh
end
theorem own_cut {w : World} {B size n k : Nat} {e : TypeId} {A : Option Addr} {c : Nat} {xs : List Value} (h : w.ownsRow B e size (.slice A n c) n xs) (hk : k < n) : w.ownsRow B e size (.slice A k c) k (xs.take (k * size)) := by
  have hm : k * size ≤ n * size := Nat.mul_le_mul_right _ (by omega)
  refine ⟨by rw [List.length_take, h.1]; omega, ?_⟩
  rcases h.2 with ⟨_, h0⟩ | ⟨g, cap, cur, hv, hB, hh, hc, hcm, hs, hx⟩
  · omega
  · injection hv with hA _ hcc
    subst hcc
    refine .inr ⟨g, c, cur, by rw [hA], hB, hh, by omega, hcm, hs, ?_⟩
    rw [← hx, List.take_take, Nat.min_eq_left hm]
theorem reads_own {w : World} {B size n : Nat} {e : TypeId} {A : Option Addr} {c : Nat} {xs : List Value} (h : w.ownsRow B e size (.slice A n c) n xs) : Reads w w.heap.size size A n xs := Reads.of_own h
section
variable {w w' : World} {g : Nat} {A : Option Addr} {c : Nat} {xs : List Fld} {mx : Nat} {S : Nat → Prop}
theorem Tab.keep (h : Tab w g A c xs mx) (hk : Keep S w w') (hS : ∀ k, tOwn g A k → ¬ S k) : Tab w' g A c xs mx :=
  ⟨h.blk.keep hk (hS g (.inl rfl)), own_keep h.own hk fun a ha => hS _ (.inr ⟨a, ha, rfl⟩), h.wt, h.mx⟩
theorem Tab.below (h : Tab w g A c xs mx) (hb : Below w.heap.size w w') : Tab w' g A c xs mx := h.keep (S := fun _ => False) (Keep.of_below hb) fun _ _ h => h
theorem Tab.cells (h : Tab w g A c xs mx) : w.cell? ⟨g, 0, none⟩ = some (.slice A xs.length c) ∧ w.cell? ⟨g, 1, none⟩ = some (.int .i64 (Go.Proofs.YtbgnggkgmeagkaaGreatDoor.wt xs : Nat)) ∧ w.cell? ⟨g, 2, none⟩ = some (.int .i64 (mx : Nat)) :=
  ⟨h.blk.cell 0, h.blk.cell 1, h.blk.cell 2⟩
theorem Tab.cap (h : Tab w g A c xs mx) : xs.length ≤ c ∧ c ≤ maxLen ∧ xs.length ≤ 128 := by
  have h1 := wt_len xs
  have h2 := h.wt
  have h3 := h.mx
  rcases h.own.2 with ⟨he, h0⟩ | ⟨_, cap, cur, he, _, _, hc, hm, _⟩
  · injection he with _ _ hc
    omega
  · injection he with _ _ hc
    subst hc
    exact ⟨hc, hm, by omega⟩
theorem Tab.lt (h : Tab w g A c xs mx) : ∀ k, tOwn g A k → k < w.heap.size := by
  rintro k (rfl | ⟨a, rfl, rfl⟩)
  · exact h.blk.lt
  · exact (h.own.lt _ rfl).2
end

theorem cell_behind {w w1 : World} (hb : Below w.heap.size w w1) {p : Addr} {v : Value} (h : w.cell? p = some v) : w1.cell? p = some v := (hb.cell (World.block_lt_of_cell? w p h)).trans h
theorem frozen_behind {w w1 : World} (hb : Below w.heap.size w w1) {b o : Nat} {z : Bool} (hlt : b < w.heap.size) (h : w.frozen? ⟨b, o, none⟩ = z) : w1.frozen? ⟨b, o, none⟩ = z := (hb.frozen (p := ⟨b, o, none⟩) hlt).trans h

theorem cell_drew {w w1 : World} (hb : Below w.drew.heap.size w.drew w1) {p : Addr} {v : Value} (h : w.cell? p = some v) : w1.cell? p = some v := cell_behind hb h
theorem frozen_drew {w w1 : World} (hb : Below w.drew.heap.size w.drew w1) {b o : Nat} {z : Bool} (hlt : b < w.heap.size) (h : w.frozen? ⟨b, o, none⟩ = z) : w1.frozen? ⟨b, o, none⟩ = z := frozen_behind hb hlt h

set_option maxHeartbeats 1000000 in
theorem len_any {w : World} {g : Nat} {A : Option Addr} {c : Nat} {xs : List Fld} {mx : Nat} (h : Tab w g A c xs mx) :
    Calls Tryz.prog 150 #[.pointer (some ⟨g, 0, none⟩)] w fun e w' => e = .returned (.int .i64 ((12 + xs.length : Nat) : Int)) ∧ Below w.heap.size w w' := by
  obtain ⟨c0, _, _⟩ := h.cells
  obtain ⟨_, _, hl⟩ := h.cap
  have hg := h.blk.lt
  clear h
  go_enter Tryz.func150, Tryz.ntmps150
  go_wp2
  go_region_held3 (fun w' => w'.cell? ⟨g, 0, none⟩ = some (.slice A xs.length c)) (go_keep) (first | (go_at_call 89; refine (always_any _).mono ?_; rintro e w' ⟨rfl, rfl⟩))
  all_goals
    go_wp2
    go_ret
    refine ⟨?_, (((Below.refl _ _).alloc (Nat.le_refl _) _)).drew⟩
    rw [IntKind.wrap_i64]
    simp
    omega
set_option maxHeartbeats 1000000 in
theorem right_yes (m : Int) (h0 : 0 ≤ m) (h : m ≤ 4096) (w : World) :
    Calls Tryz.prog 85 #[.int .i64 m] w fun e w' => e = .returned (.bool true) ∧ w = w' := by
  go_enter Tryz.func85, Tryz.ntmps85
  go_wp2
  go_ret
  refine ⟨?_, rfl⟩
  simp [h]
set_option maxHeartbeats 1000000 in
theorem right_no (m : Int) (h : m < 0 ∨ 4096 < m) (w : World) :
    Calls Tryz.prog 85 #[.int .i64 m] w fun e w' => e = .returned (.bool false) ∧ w = w' := by
  rcases h with h | h
  · go_enter Tryz.func85, Tryz.ntmps85
    go_wp2
    go_ret
    exact ⟨rfl, rfl⟩
  · have h0 : 0 ≤ m := by omega
    have h1 : decide (m ≤ 4096) = false := by simp; omega
    go_enter Tryz.func85, Tryz.ntmps85
    go_wp2
    go_ret
    exact ⟨by simp, rfl⟩
set_option maxHeartbeats 1000000 in
theorem new_no (m : Int) (h : m < 0 ∨ 4096 < m) (w : World) :
    Calls Tryz.prog 39 #[.int .i64 m] w fun e w' => e = .returned (.tuple #[.pointer none, .iface 95 (.int .i64 1)]) ∧ w = w' := by
  have H := Lib.hid h
  clear h
  go_enter Tryz.func39, Tryz.ntmps39
  go_wp2_with (go_at_call 85; refine (right_no _ H.out _).mono ?_; rintro e w' ⟨rfl, rfl⟩)
  go_ret2
  exact ⟨rfl, rfl⟩
set_option maxHeartbeats 1000000 in
theorem new_yes (m : Nat) (h : m ≤ 4096) (w : World) :
    Calls Tryz.prog 39 #[.int .i64 (m : Int)] w fun e w' => e = .returned (.tuple #[.pointer (some ⟨w.heap.size, 0, none⟩), .nilIface]) ∧ Tab w' w.heap.size none 0 [] m ∧ Below w.heap.size w w' ∧ w'.heap.size = w.heap.size + 1 := by
  go_enter Tryz.func39, Tryz.ntmps39
  go_wp2_with (go_at_call 85; refine (right_yes _ (by omega) (by omega) _).mono ?_; rintro e w' ⟨rfl, rfl⟩)
  go_ret2
  refine ⟨rfl, ⟨Blk.new _ _ _, World.ownsRow_nil _ _ _ _, by simp [wt], h⟩, (Below.refl _ _).alloc (Nat.le_refl _) _, by simp⟩

theorem wt_take_mono' (xs : List Fld) (n : Nat) : wt (xs.take n) ≤ wt (xs.take (n + 1)) := by
  have h1 := wt_take_le (xs.take (n + 1)) n
  rwa [List.take_take, Nat.min_eq_left (by omega)] at h1
theorem own_setT {w : World} {B size n : Nat} {e : TypeId} {A : Option Addr} {c : Nat} {xs : List Value} (h : w.ownsRow B e size (.slice A n c) n xs) {p : Addr} (hp : ∀ a, A = some a → a.block ≠ p.block) (u : Value) : (w.setCell p u).ownsRow B e size (.slice A n c) n xs := by
  refine ⟨h.1, ?_⟩
  rcases h.2 with h0 | ⟨g, cap, cur, hv, hB, hh, hr⟩
  · exact .inl h0
  · refine .inr ⟨g, cap, cur, hv, hB, ?_, hr⟩
    injection hv with hA
    exact (Below.heap_setCell w p u g (hp _ hA)).trans hh
theorem tab_ne {w : World} {g : Nat} {A : Option Addr} {c : Nat} {xs : List Fld} {mx : Nat} (h : Tab w g A c xs mx) : ∀ a, A = some a → a.block ≠ g := by
  intro a ha he
  have := own_blk_ne h.own h.blk (by decide)
  rw [ha] at this
  exact this (by simp [Value.ownBlock, he])
theorem shr_step {w wr w1 : World} {g : Nat} {A : Option Addr} {c : Nat} {xs : List Fld} {mx n : Nat} (h : Tab wr g A c (xs.take (n + 1)) mx) (hn : n + 1 ≤ xs.length) (hb : Below wr.drew.heap.size wr.drew w1) (hk : Keep (tOwn g A) w wr) :
    Tab ((w1.setCell ⟨g, 1, none⟩ (.int .i64 ((wt (xs.take n) : Nat) : Int))).setCell ⟨g, 0, none⟩ (.slice A n c)) g A c (xs.take n) mx ∧
      Keep (tOwn g A) w ((w1.setCell ⟨g, 1, none⟩ (.int .i64 ((wt (xs.take n) : Nat) : Int))).setCell ⟨g, 0, none⟩ (.slice A n c)) := by
  have hlen : (xs.take n).length = n := by simp; omega
  have hlen1 : (xs.take (n + 1)).length = n + 1 := by simp; omega
  have hlt : g < wr.heap.size := h.blk.lt
  have hb' : Below wr.heap.size wr w1 := ⟨hb.os, hb.tape, hb.output, hb.size, hb.block⟩
  have h1 := h.below hb'
  have hne := tab_ne h
  constructor
  · refine ⟨?_, ?_, ?_, h.mx⟩
    · have := ((h1.blk.set_ 1 (.int .i64 ((wt (xs.take n) : Nat) : Int))).set_ 0 (.slice A n c))
      rw [hlen]
      simpa using this
    · have ho := h1.own
      rw [hlen1] at ho
      have h2 := own_cut ho (show n < n + 1 by omega)
      rw [fvs_take, List.take_take, Nat.min_eq_left (by omega)] at h2
      rw [hlen]
      exact own_setT (own_setT h2 hne _) hne _
    · have h3 := wt_take_mono' xs n
      have h4 := h.wt
      omega
  · have k1 : Keep (tOwn g A) wr w1 := Keep.of_below hb'
    exact ((hk.trans k1 fun i hi => .inl hi).setCell (.inl (.inl rfl)) _).setCell (.inl (.inl rfl)) _

set_option maxRecDepth 100000 in
set_option maxHeartbeats 4000000 in
theorem shrink_any {w : World} {g : Nat} {A : Option Addr} {c : Nat} {xs : List Fld} {mx : Nat} (h : Tab w g A c xs mx) (most : Nat) (hmo : most ≤ 4096) :
    Calls Tryz.prog 92 #[.pointer (some ⟨g, 0, none⟩), .int .i64 (most : Int)] w fun e w' => e = .returned (.tuple #[]) ∧ Tab w' g A c (shr most xs) mx ∧ Keep (tOwn g A) w w' := by
  obtain ⟨hcap, hcm, hl⟩ := h.cap
  unfold maxLen at hcm
  have hmx := h.mx
  go_enter Tryz.func92, Tryz.ntmps92
  go_wp2
  go_loopg [4] xs.length (fun n _ wr => n ≤ xs.length ∧ Hid (shrN most xs n = shrN most xs xs.length) ∧ Hid (Tab wr g A c (xs.take n) mx) ∧ Hid (Keep (tOwn g A) w wr))
  case atStart => exact ⟨Nat.le_refl _, rfl, by rw [List.take_of_length_le (Nat.le_refl _)]; exact h, Keep.refl _ _⟩
  case round =>
    obtain ⟨hn, H1, H2, H3⟩ := hrel
    have hlen : (xs.take gk).length = gk := by simp; omega
    have hT := H2.out
    obtain ⟨c0, c1, c2⟩ := hT.cells
    have hw4 := hT.wt
    have f0 := hT.blk.frozen 0
    have f1 := hT.blk.frozen 1
    have hg := hT.blk.lt
    have hown := hT.own
    rw [hlen] at c0 hown
    by_cases hgo : wt (xs.take gk) ≤ most
    · have hN : shrN most xs gk = gk := shrN_stay hgo
      have hd : decide ((most : Int) < ((wt (xs.take gk) : Nat) : Int)) = false := by simp; omega
      clear hT hown hlen
      generalize wt (xs.take gk) = W at *
      go_wp2
      go_end0
      have e : shr most xs = xs.take gk := by unfold shr; rw [← H1.out, hN]
      rw [e]
      exact ⟨rfl, H2.out, H3.out⟩
    · obtain ⟨n, rfl⟩ : ∃ n, gk = n + 1 := ⟨gk - 1, by
        have : gk ≠ 0 := by rintro rfl; simp [wt] at hgo
        omega⟩
      have hN : shrN most xs (n + 1) = shrN most xs n := shrN_go hgo
      have hws := wt_take_succ xs n (by omega)
      have hfs := fsz_pos xs[n]
      have hr := reads_own hown
      have hr' : Reads wr wr.heap.size 2 A (xs.take (n + 1)).length (fvs (xs.take (n + 1))) := by rw [hlen]; exact hr
      obtain ⟨rb, ro, hA, hrb, hcl⟩ := reads_fld hr' (by omega)
      obtain ⟨e1, e2⟩ := hcl n (by omega)
      have hget : (xs.take (n + 1))[n]'(by omega) = xs[n] := by simp
      rw [hget] at e1 e2
      have hne : rb ≠ g := by
        have := own_blk_ne hown hT.blk (by decide)
        rw [hA] at this
        simpa [Value.ownBlock] using this
      have hsz : fsz xs[n] ≤ 4096 := by omega
      generalize hf : xs[n] = f at *
      have hfok : fOk f := by
        unfold fsz at hsz
        constructor <;> omega
      have HD := Lib.hid hN
      have HO := Lib.hid hown
      have hwr : IntKind.i64.wrap (((wt (xs.take (n + 1)) : Nat) : Int) - ((fsz f : Nat) : Int)) = ((wt (xs.take n) : Nat) : Int) := by
        rw [IntKind.wrap_i64]
        omega
      have HS := Lib.hid (fun (w1 : World) (hb : Below wr.drew.heap.size wr.drew w1) => shr_step (w := w) H2.out hn hb H3.out)
      have hd : decide ((most : Int) < ((wt (xs.take (n + 1)) : Nat) : Int)) = true := by simp; omega
      clear hr hr' hcl hget hlen hT hown hf hN hws
      subst hA
      generalize wt (xs.take (n + 1)) = W at *
      generalize wt (xs.take n) = W0 at *
      have i0 : (0 : Int) ≤ (n : Int) := by omega
      have i1 : (n : Int) < (n : Int) + 1 := by omega
      go_wp2
      go_region_law? (first | (go_simp; go_at_call 91; refine (size_any f hfok _).mono ?_; rintro e w1 ⟨rfl, hb⟩; have b1 := cell_drew hb c1; have b0 := cell_drew hb c0; have g1 := frozen_drew hb hg f1; have g0 := frozen_drew hb hg f0))
      all_goals
        go_wp2
        go_roundg n
        case measure => omega
        case rel => exact ⟨by omega, HD.out.symm.trans H1.out, (HS.out _ hb).1, (HS.out _ hb).2⟩
end Go.Proofs.YtbgnggkgmeagkaaGreatDoor
