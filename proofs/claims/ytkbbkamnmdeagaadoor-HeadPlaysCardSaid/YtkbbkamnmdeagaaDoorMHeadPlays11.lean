/-
  A table behind a pointer: the contract of Add. Condition: the field's texts' lengths.
  slices.Concat at []api.Field, whatever slices it is handed; slices.Grow of nil. Condition: the bound on the bytes.
-/
import Derived.Test.YtkbbkamnmdeagaaDoorMHeadPlays08
import Derived.Test.YtkbbkamnmdeagaaDoorInsert
import Derived.Test.YtkbbkamnmdeagaaDoorMHeadPlays10
import Derived.Test.YtkbbkamnmdeagaaDoorMHeadPlays07
import Derived.Lib.AppendZeros
namespace Go.Proofs.YtkbbkamnmdeagaaDoor
open Go.RowKit
attribute [local go_sem ↓] Go.wp_at_zero Go.wp_at_succ

theorem insert_any {w : World} {A : Option Addr} {c : Nat} {xs : List Fld} (h : w.ownsRow 0 86 2 (.slice A xs.length c) xs.length (fvs xs)) (hm : xs.length ≤ 1000) (f : Fld) (vb : Nat) (hv : Blk w vb 86 #[.string ⟨f.1.toArray⟩, .string ⟨f.2.toArray⟩]) (hne : ∀ a, A = some a → a.block ≠ vb) (n : Nat) (hn : n = xs.length) :
    Calls Tryd.prog 85 #[.slice A n c, .int .i64 0, .slice (some ⟨vb, 0, none⟩) 1 1] w fun e w' => ∃ v, e = .returned v ∧ Inserted w w' A v f xs := by
  subst hn
  rcases Nat.eq_zero_or_pos xs.length with h0 | h0
  · have hx : xs = [] := List.eq_nil_of_length_eq_zero h0
    subst hx
    exact insert_nil h f vb hv
  · by_cases hroom : xs.length + 1 ≤ c
    · exact insert_room h h0 hroom hm f vb hv hne
    · exact insert_grow h h0 (by omega) hm f vb hv

/-- What an add leaves. -/
def Added (w w' : World) (g : Nat) (A : Option Addr) (mx : Nat) (xs : List Fld) (f : Fld) : Prop :=
  ∃ A' c', Tab w' g A' c' (tAdd mx xs f) mx ∧ Keep (tOwn g A) w w' ∧ ∀ k, tOwn g A' k → tOwn g A k ∨ w.heap.size ≤ k

theorem below_of_drew {w w1 : World} (hb : Below w.drew.heap.size w.drew w1) : Below w.heap.size w w1 := ⟨hb.os, hb.tape, hb.output, hb.size, hb.block⟩

set_option maxRecDepth 100000 in
set_option maxHeartbeats 4000000 in
theorem add_no {w : World} {g : Nat} {A : Option Addr} {c : Nat} {xs : List Fld} {mx : Nat} (h : Tab w g A c xs mx) (f : Fld) (hf : fOk f) (hno : mx < fsz f) :
    Calls Tryd.prog 45 #[.pointer (some ⟨g, 0, none⟩), .agg #[.string ⟨f.1.toArray⟩, .string ⟨f.2.toArray⟩]] w fun e w' => e = .returned (.bool false) ∧ Added w w' g A mx xs f := by
  have hd : decide (((mx : Nat) : Int) < ((fsz f : Nat) : Int)) = true := by simp; omega
  have hbx := (Below.refl w.heap.size w).alloc (Nat.le_refl _) (.cells #[.string ⟨f.1.toArray⟩, .string ⟨f.2.toArray⟩] 86)
  have hT := h.below hbx
  have hgw := h.lt
  have hBx : Blk (w.alloc (.cells #[.string ⟨f.1.toArray⟩, .string ⟨f.2.toArray⟩] 86)) w.heap.size 86 #[.string ⟨f.1.toArray⟩, .string ⟨f.2.toArray⟩] := Blk.new w _ _
  obtain ⟨_, _, c2⟩ := hT.cells
  have b0 : (w.alloc (.cells #[.string ⟨f.1.toArray⟩, .string ⟨f.2.toArray⟩] 86)).cell? ⟨w.heap.size, 0, none⟩ = some (.string ⟨f.1.toArray⟩) := hBx.cell 0
  have b1 : (w.alloc (.cells #[.string ⟨f.1.toArray⟩, .string ⟨f.2.toArray⟩] 86)).cell? ⟨w.heap.size, 1, none⟩ = some (.string ⟨f.2.toArray⟩) := hBx.cell 1
  have HX := Lib.hid hBx
  have HT := Lib.hid hT
  have HB := Lib.hid hbx
  have HG := Lib.hid hgw
  clear hT hbx h hBx hgw
  go_enter Tryd.func45, Tryd.ntmps45
  go_wp2
  generalize (w.alloc (.cells #[.string ⟨f.1.toArray⟩, .string ⟨f.2.toArray⟩] 86)) = W at *
  go_region_held3 (fun w' => w'.cell? ⟨g, 2, none⟩ = some (.int .i64 ((mx : Nat) : Int)) ∧ w'.cell? ⟨w.heap.size, 0, none⟩ = some (.string ⟨f.1.toArray⟩) ∧ w'.cell? ⟨w.heap.size, 1, none⟩ = some (.string ⟨f.2.toArray⟩))
    (first | go_keep | (exact ⟨cell_behind hb1 ‹_›, cell_behind hb1 ‹_›, cell_behind hb1 ‹_›⟩))
    (first | (go_at_call 83; refine (size_any f hf _).mono ?_; rintro e w1 ⟨rfl, hb1⟩))
  all_goals
    have hbW := below_of_drew hb1
    have h1 := Lib.hid (HT.out.below hbW)
    have h2 := Lib.hid (HB.out.trans (hbW.mono HB.out.size))
    clear hb1 hbW
    go_wp2_with fail
    refine (shrink_any h1.out 0 (by omega)).mono ?_
    rintro e w2 ⟨rfl, h3, h4⟩
    go_wp2
    go_ret
    refine ⟨rfl, A, c, ?_, (Keep.of_below h2.out).trans h4 fun i hi => .inl hi, fun k hk => .inl hk⟩
    rw [tAdd_no hno]
    rw [shr_zero] at h3
    exact h3

/-- Insert's call as it stands in Add. -/
theorem insert_at {w3 : World} {g : Nat} {A : Option Addr} {c : Nat} {ys : List Fld} {mx : Nat} (h : Tab w3 g A c ys mx) (f : Fld) :
    Calls Tryd.prog 85 #[.slice A ys.length c, .int .i64 0, .slice (some ⟨w3.heap.size, 0, none⟩) 1 1] (w3.alloc (.cells #[.string ⟨f.1.toArray⟩, .string ⟨f.2.toArray⟩] 86)).drew fun e w4 =>
      ∃ A' c', e = .returned (.slice A' (ys.length + 1) c') ∧ w4.ownsRow 0 86 2 (.slice A' (ys.length + 1) c') (ys.length + 1) (fvs (f :: ys)) ∧
        Blk w4 g 129 #[.slice A ys.length c, .int .i64 (wt ys : Nat), .int .i64 (mx : Nat)] ∧ Keep (tOwn g A) w3 w4 ∧ (∀ a, A' = some a → (∃ b, A = some b ∧ a.block = b.block) ∨ w3.heap.size ≤ a.block) := by
  have hb : Below w3.heap.size w3 (w3.alloc (.cells #[.string ⟨f.1.toArray⟩, .string ⟨f.2.toArray⟩] 86)).drew := ((Below.refl _ _).alloc (Nat.le_refl _) _).drew
  have h1 := h.below hb
  have hcap := h.cap.2.2
  have hlt := h.lt
  refine (insert_any h1.own (by omega) f w3.heap.size ((Blk.new w3 _ _).drew) (fun a ha he => ?_) _ rfl).mono ?_
  · have := hlt a.block (.inr ⟨a, ha, rfl⟩)
    omega
  · rintro e w4 ⟨v, rfl, A', c', rfl, hown, hk, hfr⟩
    refine ⟨A', c', rfl, hown, h1.blk.keep hk ?_, ?_, fun a ha => ?_⟩
    · rintro ⟨a, ha, he⟩
      exact tab_ne h a ha he.symm
    · exact (Keep.of_below hb).trans (hk.mono (T := tOwn g A) fun i hi => .inr hi) fun i hi => .inl hi
    · rcases hfr a ha with h2 | h2
      · exact .inl h2
      · refine .inr ?_
        have := hb.size
        omega
/-- What Add's end leaves. -/
theorem add_end {w w3 w4 w6 : World} {g : Nat} {A A' : Option Addr} {c c' : Nat} {xs ys : List Fld} {mx : Nat} {f : Fld} (hy : tAdd mx xs f = f :: ys) (hmx : mx ≤ 4096) (hk3 : Keep (tOwn g A) w w3)
    (hown : w4.ownsRow 0 86 2 (.slice A' (ys.length + 1) c') (ys.length + 1) (fvs (f :: ys))) (hblk : Blk w4 g 129 #[.slice A ys.length c, .int .i64 (wt ys : Nat), .int .i64 (mx : Nat)]) (hk4 : Keep (tOwn g A) w3 w4)
    (hfr : ∀ a, A' = some a → (∃ b, A = some b ∧ a.block = b.block) ∨ w3.heap.size ≤ a.block) (hb : Below (w4.setCell ⟨g, 0, none⟩ (.slice A' (ys.length + 1) c')).heap.size (w4.setCell ⟨g, 0, none⟩ (.slice A' (ys.length + 1) c')) w6) :
    Added w (w6.setCell ⟨g, 1, none⟩ (.int .i64 ((wt ys + fsz f : Nat) : Int))) g A mx xs f := by
  have hw : wt (f :: ys) = wt ys + fsz f := by rw [wt_cons]; omega
  have hwt := wt_tAdd mx xs f
  have hne : ∀ a, A' = some a → a.block ≠ g := by
    intro a ha he
    have := own_blk_ne hown hblk (by decide)
    rw [ha] at this
    exact this (by simp [Value.ownBlock, he])
  have o1 := own_setT hown hne (.slice A' (ys.length + 1) c') (p := ⟨g, 0, none⟩)
  have k1 := hblk.set_ 0 (.slice A' (ys.length + 1) c')
  have k2 : Blk w6 g 129 _ := k1.below hb k1.lt
  have o2 := own_keep o1 (Keep.of_below (S := fun _ => False) hb) fun _ _ h => h
  have o3 := own_setT o2 hne (.int .i64 ((wt ys + fsz f : Nat) : Int)) (p := ⟨g, 1, none⟩)
  have k3 := k2.set_ 1 (.int .i64 ((wt ys + fsz f : Nat) : Int))
  refine ⟨A', c', ?_, ?_, ?_⟩
  · rw [hy] at hwt ⊢
    refine ⟨?_, o3, by omega, hmx⟩
    rw [hw]
    simpa using k3
  · have k4 : Keep (tOwn g A) w4 (w6.setCell ⟨g, 1, none⟩ (.int .i64 ((wt ys + fsz f : Nat) : Int))) := by
      have a1 := (Keep.refl (tOwn g A) w4).setCell (p := ⟨g, 0, none⟩) (.inl (.inl rfl)) (.slice A' (ys.length + 1) c')
      have a2 := a1.trans (Keep.of_below (S := tOwn g A) hb) fun i hi => .inl hi
      exact a2.setCell (p := ⟨g, 1, none⟩) (.inl (.inl rfl)) _
    exact (hk3.trans hk4 fun i hi => .inl hi).trans k4 fun i hi => .inl hi
  · rintro k (rfl | ⟨a, ha, rfl⟩)
    · exact .inl (.inl rfl)
    · rcases hfr a ha with ⟨b, hb1, hb2⟩ | h2
      · exact .inl (.inr ⟨b, hb1, hb2⟩)
      · refine .inr ?_
        have := hk3.size
        omega

set_option maxRecDepth 100000 in
set_option maxHeartbeats 4000000 in
theorem add_yes {w : World} {g : Nat} {A : Option Addr} {c : Nat} {xs : List Fld} {mx : Nat} (h : Tab w g A c xs mx) (f : Fld) (hf : fOk f) (hno : ¬ mx < fsz f) :
    Calls Tryd.prog 45 #[.pointer (some ⟨g, 0, none⟩), .agg #[.string ⟨f.1.toArray⟩, .string ⟨f.2.toArray⟩]] w fun e w' => e = .returned (.bool true) ∧ Added w w' g A mx xs f := by
  have hd : decide (((mx : Nat) : Int) < ((fsz f : Nat) : Int)) = false := by simp; omega
  have hmx := h.mx
  have hwr : IntKind.i64.wrap (((mx : Nat) : Int) - ((fsz f : Nat) : Int)) = ((mx - fsz f : Nat) : Int) := by
    rw [IntKind.wrap_i64]
    omega
  have hbx := (Below.refl w.heap.size w).alloc (Nat.le_refl _) (.cells #[.string ⟨f.1.toArray⟩, .string ⟨f.2.toArray⟩] 86)
  have hT := h.below hbx
  have hgw := h.lt
  have hBx : Blk (w.alloc (.cells #[.string ⟨f.1.toArray⟩, .string ⟨f.2.toArray⟩] 86)) w.heap.size 86 #[.string ⟨f.1.toArray⟩, .string ⟨f.2.toArray⟩] := Blk.new w _ _
  obtain ⟨_, _, c2⟩ := hT.cells
  have b0 : (w.alloc (.cells #[.string ⟨f.1.toArray⟩, .string ⟨f.2.toArray⟩] 86)).cell? ⟨w.heap.size, 0, none⟩ = some (.string ⟨f.1.toArray⟩) := hBx.cell 0
  have b1 : (w.alloc (.cells #[.string ⟨f.1.toArray⟩, .string ⟨f.2.toArray⟩] 86)).cell? ⟨w.heap.size, 1, none⟩ = some (.string ⟨f.2.toArray⟩) := hBx.cell 1
  have HX := Lib.hid hBx
  have HT := Lib.hid hT
  have HB := Lib.hid hbx
  have HG := Lib.hid hgw
  clear hT hbx h hBx hgw
  go_enter Tryd.func45, Tryd.ntmps45
  go_wp2
  generalize (w.alloc (.cells #[.string ⟨f.1.toArray⟩, .string ⟨f.2.toArray⟩] 86)) = W at *
  go_region_held3 (fun w' => w'.cell? ⟨g, 2, none⟩ = some (.int .i64 ((mx : Nat) : Int)) ∧ w'.cell? ⟨w.heap.size, 0, none⟩ = some (.string ⟨f.1.toArray⟩) ∧ w'.cell? ⟨w.heap.size, 1, none⟩ = some (.string ⟨f.2.toArray⟩))
    (first | go_keep | (exact ⟨cell_behind hb1 ‹_›, cell_behind hb1 ‹_›, cell_behind hb1 ‹_›⟩))
    (first | (go_at_call 83; refine (size_any f hf _).mono ?_; rintro e w1 ⟨rfl, hb1⟩))
  all_goals
    have hbW := below_of_drew hb1
    have h1 := HT.out.below hbW
    have h2 := HB.out.trans (hbW.mono HB.out.size)
    have hx1 := HX.out.below hbW HX.out.lt
    have HX1 := Lib.hid hx1
    have HT1 := Lib.hid h1
    have HB1 := Lib.hid h2
    obtain ⟨_, _, d2⟩ := h1.cells
    have e0 : w1.cell? ⟨w.heap.size, 0, none⟩ = some (.string ⟨f.1.toArray⟩) := hx1.cell 0
    have e1 : w1.cell? ⟨w.heap.size, 1, none⟩ = some (.string ⟨f.2.toArray⟩) := hx1.cell 1
    clear hb1 hbW h1 h2 hx1 c2 b0 b1 HX HT HB
    go_wp2
    go_region_held3 (fun w' => w'.cell? ⟨g, 2, none⟩ = some (.int .i64 ((mx : Nat) : Int)) ∧ w'.cell? ⟨w.heap.size, 0, none⟩ = some (.string ⟨f.1.toArray⟩) ∧ w'.cell? ⟨w.heap.size, 1, none⟩ = some (.string ⟨f.2.toArray⟩))
      (first | go_keep | (exact ⟨cell_behind hb2 ‹_›, cell_behind hb2 ‹_›, cell_behind hb2 ‹_›⟩) | (exact ⟨h3.cells.2.2, (hx3.cell 0), (hx3.cell 1)⟩))
      (first | (go_at_call 83; refine (size_any f hf _).mono ?_; rintro e w2 ⟨rfl, hb2⟩) | (go_at_call 84; refine (shrink_any (HT1.out.below (below_of_drew hb2)) (mx - fsz f) (by omega)).mono ?_; rintro e w3 ⟨rfl, h3, h4⟩; have hx3 := (HX1.out.below (below_of_drew hb2) HX1.out.lt).keep h4 (fun ht => absurd (HG.out _ ht) (Nat.lt_irrefl _))))
    all_goals
      have hk3 := Lib.hid (((Keep.of_below HB1.out).trans (Keep.of_below (S := tOwn g A) (below_of_drew hb2)) fun i hi => .inl hi).trans h4 fun i hi => .inl hi)
      have hs3 : w.heap.size < w3.heap.size := hx3.lt
      have HX3 := Lib.hid hx3
      have HT3 := Lib.hid h3
      obtain ⟨p0, p1, p2⟩ := h3.cells
      have g0 := h3.blk.frozen 0
      have g1 := h3.blk.frozen 1
      have hg3 := h3.blk.lt
      have q0 : w3.cell? ⟨w.heap.size, 0, none⟩ = some (.string ⟨f.1.toArray⟩) := hx3.cell 0
      have q1 : w3.cell? ⟨w.heap.size, 1, none⟩ = some (.string ⟨f.2.toArray⟩) := hx3.cell 1
      have hwt3 := h3.wt
      have hcap3 := h3.cap.2.2
      have HN := Lib.hid (insert_at h3 f)
      have HY := Lib.hid (tAdd_yes hno (xs := xs))
      clear hb2 h3 h4 hx3 d2 e0 e1 HX1 HT1 HB1
      generalize shr (mx - fsz f) xs = ys at *
      have hws : IntKind.i64.wrap (((wt ys : Nat) : Int) + ((fsz f : Nat) : Int)) = ((wt ys + fsz f : Nat) : Int) := by
        rw [IntKind.wrap_i64]
        omega
      go_wp2
      go_region_law (first | (go_simp; go_at_call 85; refine HN.out.mono ?_; rintro e w4 ⟨A4, c4, rfl, hown4, hblk4, hk4, hfr4⟩; have t0 := hblk4.cell 0; have t1 := hblk4.frozen 0))
      all_goals
        have k5 := hblk4.set_ 0 (.slice A4 (ys.length + 1) c4)
        have x5 : Blk (w4.setCell ⟨g, 0, none⟩ (.slice A4 (ys.length + 1) c4)) w.heap.size 86 #[.string ⟨f.1.toArray⟩, .string ⟨f.2.toArray⟩] :=
          (HX3.out.keep hk4 (fun ht => absurd (HG.out _ ht) (Nat.lt_irrefl _))).far (p := ⟨g, 0, none⟩) (by have := HG.out g (.inl rfl); show w.heap.size ≠ g; omega) _
        have HE := Lib.hid (fun (w6 : World) (hb : Below (w4.setCell ⟨g, 0, none⟩ (.slice A4 (ys.length + 1) c4)).heap.size (w4.setCell ⟨g, 0, none⟩ (.slice A4 (ys.length + 1) c4)) w6) => add_end (xs := xs) HY.out hmx hk3.out hown4 hblk4 hk4 hfr4 hb)
        clear hown4 hblk4 hk4 hfr4 t0 t1 q0 q1 p0 p1 p2 g0 g1 HX3 HN hs3 hg3
        generalize w4.setCell ⟨g, 0, none⟩ (.slice A4 (ys.length + 1) c4) = W5 at *
        have u1 : W5.cell? ⟨g, 1, none⟩ = some (.int .i64 ((wt ys : Nat) : Int)) := by
          have := k5.cell 1
          simpa using this
        have v1 := k5.frozen 1
        have hg5 := k5.lt
        have x0 : W5.cell? ⟨w.heap.size, 0, none⟩ = some (.string ⟨f.1.toArray⟩) := x5.cell 0
        have x1 : W5.cell? ⟨w.heap.size, 1, none⟩ = some (.string ⟨f.2.toArray⟩) := x5.cell 1
        clear k5 x5
        go_wp2
        go_region_law (first | (go_simp; go_at_call 83; refine (size_any f hf _).mono ?_; rintro e w6 ⟨rfl, hb6⟩; have s1 := cell_drew hb6 u1; have s2 := frozen_drew hb6 hg5 v1))
        all_goals
          go_wp2
          go_ret
          exact ⟨rfl, HE.out _ (below_of_drew hb6)⟩
theorem add_any {w : World} {g : Nat} {A : Option Addr} {c : Nat} {xs : List Fld} {mx : Nat} (h : Tab w g A c xs mx) (f : Fld) (hf : fOk f) :
    Calls Tryd.prog 45 #[.pointer (some ⟨g, 0, none⟩), .agg #[.string ⟨f.1.toArray⟩, .string ⟨f.2.toArray⟩]] w fun e w' => e = .returned (.bool (decide (fsz f ≤ mx))) ∧ Added w w' g A mx xs f := by
  by_cases hno : mx < fsz f
  · have e : decide (fsz f ≤ mx) = false := by simp; omega
    rw [e]
    exact add_no h f hf hno
  · have e : decide (fsz f ≤ mx) = true := by simp; omega
    rw [e]
    exact add_yes h f hf hno
end Go.Proofs.YtkbbkamnmdeagaaDoor
namespace Go.Proofs.YtkbbkamnmdeagaaDoor
open Go.RowKit

set_option maxRecDepth 100000 in
set_option maxHeartbeats 1000000 in
theorem growF_any (n : Nat) (hn : n * 32 ≤ 140737488355328) (w : World) :
    Calls Tryd.prog 101 #[.slice none 0 0, .int .i64 (n : Int)] w fun e w' => ∃ v, e = .returned v ∧ w'.ownsRow w.heap.size 86 2 v 0 [] ∧ Below w.heap.size w w' := by
  rcases Nat.eq_zero_or_pos n with rfl | h0
  · go_enter Tryd.func101, Tryd.ntmps101
    go_wp2
    go_ret
    exact ⟨_, rfl, World.ownsRow_nil _ _ _ _, Below.refl _ _⟩
  · obtain ⟨i0, hi, hz0, hz1, hz2⟩ := info_parts fld_info
    have hneg : ¬ ((n : Int) < 0) := by omega
    have hpos : (0 : Int) < (n : Int) := by omega
    have hG := grownCap_ge w n 0 86
    have hG63 := grownCap_le_maxLen w n 0 86 (by unfold maxLen; omega)
    have hrun := fun ty => Lib.run_append_nil_zeros (P := Tryd.prog) w 76 3 ty 86 i0 (.agg #[.string ⟨#[]⟩, .string ⟨#[]⟩] : Value) .i64 .i64 Tryd.underlying76 Tryd.underlying3 hi hz0 n h0 (by omega) (by omega) (by rw [hz2]; omega)
    obtain ⟨G, hGe⟩ : ∃ G, grownCap w n 0 86 = G := ⟨_, rfl⟩
    rw [hGe] at hG hG63 hrun
    obtain ⟨CS, hCS⟩ : ∃ CS, Builtin.zeroCells (.agg #[.string ⟨#[]⟩, .string ⟨#[]⟩] : Value).cells n ++ Builtin.zeroCells (.agg #[.string ⟨#[]⟩, .string ⟨#[]⟩] : Value).cells (G - n) = CS := ⟨_, rfl⟩
    have hsz : CS.size = G * 2 := by
      rw [← hCS, Array.size_append, zeroCells_size, zeroCells_size]
      have : (.agg #[.string ⟨#[]⟩, .string ⟨#[]⟩] : Value).cells.size = 2 := by rfl
      rw [this, ← Nat.add_mul]
      congr 1
      omega
    rw [hCS] at hrun
    have HSZ := Lib.hid hsz
    have hGI : (0 : Int) ≤ (G : Int) := by omega
    unfold maxLen at hG63
    clear hi hz0 hz1 hz2 hGe hCS hsz
    go_enter Tryd.func101, Tryd.ntmps101
    go_wp2_with (at_builtin; refine Lib.wpList_append_run _ rfl _ _ _ _ rfl _ _ rfl rfl _ _ (hrun _) ?_)
    go_ret
    refine ⟨_, rfl, ⟨rfl, .inr ⟨w.heap.size, G, CS, rfl, Nat.le_refl _, heap_alloc_new _ _, by omega, by unfold maxLen; omega, HSZ.out, by simp⟩⟩, ((Below.refl _ _).drew).alloc (Nat.le_refl _) _⟩

set_option maxRecDepth 100000 in
set_option maxHeartbeats 4000000 in
theorem concatF_any (ps : List Part) (pb : Nat) (w : World) (hps : PartsAt w 2 pb ps) (hm : total ps * 32 ≤ 140737488355328) (hl : ps.length ≤ 1000000) :
    Calls Tryd.prog 87 #[.slice (some ⟨pb, 0, none⟩) ps.length ps.length] w fun e w' => ∃ v, e = .returned v ∧ w'.ownsRow w.heap.size 86 2 v (total ps) (flat ps) ∧ Below w.heap.size w w' := by
  obtain ⟨i0, hi, hz0, hz1, hz2⟩ := info_parts fld_info
  have HI := Lib.hid hi
  have HZ0 := Lib.hid hz0
  have HZ1 := Lib.hid hz1
  have HZ2 := Lib.hid hz2
  have HP := Lib.hid hps
  clear hi hz0 hz1 hz2 hps
  go_enter Tryd.func87, Tryd.ntmps87
  go_wp2
  go_loop [3, 11] (fun t i => ∃ k : Nat, k ≤ ps.length ∧ i = .int .i64 (k : Int) ∧ t = .int .i64 ((total (ps.take k) : Nat) : Int)) (fun _ i => ps.length - (intOf i).toNat)
  case atStart => exact ⟨0, Nat.zero_le _, rfl, rfl⟩
  case round =>
    obtain ⟨k, hk, rfl, rfl⟩ := hrel
    have hle := total_take_le ps k
    have hb : total (ps.take k) ≤ 140737488355328 := by omega
    by_cases hlt : k < ps.length
    · have hsn := total_take_succ ps k hlt
      have hle2 := total_take_le ps (k + 1)
      obtain ⟨c0, _⟩ := HP.out k hlt
      have HS := Lib.hid hsn
      have hn : ps[k].n ≤ 140737488355328 := by omega
      clear hsn
      generalize ps[k].n = n at *
      generalize ps[k].A = A at *
      generalize ps[k].c = c at *
      go_wp2
      go_round
      case rel => exact ⟨k + 1, by omega, by go_num, by rw [HS.out]; go_num⟩
      case measure => simp [intOf]; omega
    · have hke : ps.take k = ps := List.take_of_length_le (by omega)
      rw [hke]
      clear hke
      go_wp2_with (go_at_call 101; refine (growF_any _ (by omega) _).mono ?_; rintro e w1 ⟨v, rfl, hown, hb1⟩)
      go_loopw [6, 27] (fun v i wr => ∃ k : Nat, k ≤ ps.length ∧ i = .int .i64 (k : Int) ∧ Hid (wr.ownsRow w.heap.size 86 2 v (total (ps.take k)) (flat (ps.take k)) ∧ Below w.heap.size w wr)) (fun _ i _ => ps.length - (intOf i).toNat)
      case atStart => exact ⟨0, Nat.zero_le _, rfl, hown, hb1⟩
      case round =>
        obtain ⟨k, hk, rfl, HR⟩ := hrel
        clear hown hb1
        by_cases hlt : k < ps.length
        · obtain ⟨c0, hr⟩ := HP.out k hlt
          have hsn := total_take_succ ps k hlt
          have hfl := flat_take_succ ps k hlt
          have hle2 := total_take_le ps (k + 1)
          have hone := (HP.out k hlt).2.2
          obtain ⟨ho, hbw⟩ := HR.out
          have c1 := cell_belowP hbw c0
          have hr2 := hr.1.below hbw
          have HS := Lib.hid hsn
          have HF := Lib.hid hfl
          have HO := Lib.hid ho
          have hsum : total (ps.take k) + ps[k].n ≤ total ps := by omega
          have hbs := hbw.size
          have hby : (total (ps.take k) + ps[k].n) * 32 ≤ total ps * 32 := Nat.mul_le_mul_right _ hsum
          clear hsn hfl ho hr
          generalize ps[k].n = n at *
          generalize ps[k].A = A at *
          generalize ps[k].c = c at *
          generalize ps[k].xs = xs at *
          clear c0
          go_wp2_with (at_builtin; refine wpList_append_any _ rfl _ _ 76 rfl w.heap.size 86 i0 (.agg #[.string ⟨#[]⟩, .string ⟨#[]⟩] : Value) 2 32 Tryd.underlying76 HI.out HZ0.out HZ1.out HZ2.out rfl (by decide) _ _ _ rfl HO.out w.heap.size A n c xs rfl hr2 hone (by unfold maxLen; omega) (by omega) hbs ?_; intro v2 w2 hown2 hg2 _)
          go_roundw
          case rel => exact ⟨k + 1, by omega, by go_num, by rw [HS.out, HF.out]; exact hown2, below_append hbw HO.out hg2 hbs⟩
          case measure => simp [intOf]; omega
        · have hke : ps.take k = ps := List.take_of_length_le (by omega)
          rw [hke] at HR
          clear hke
          go_wp2
          go_ret
          exact ⟨_, rfl, HR.out.1, HR.out.2⟩
end Go.Proofs.YtkbbkamnmdeagaaDoor
