/-
  A table behind a pointer: the contracts of Max, Resize, Get. Condition: none but what the table's own words say.
-/
import Derived.Test.YtkbbkamnmdeagaaTable
namespace Go.Proofs.Ytkbbkamnmdeagaa
open Go.RowKit
attribute [local go_sem ↓] Go.wp_at_zero Go.wp_at_succ

set_option maxHeartbeats 1000000 in
theorem resize_no {w : World} (g : Nat) (m : Int) (h : m < 0 ∨ 4096 < m) :
    Calls Try.prog 36 #[.pointer (some ⟨g, 0, none⟩), .int .i64 m] w fun e w' => e = .returned (.iface 23 (.int .i64 1)) ∧ w = w' := by
  have H := Lib.hid h
  clear h
  go_enter Try.func36, Try.ntmps36
  go_wp2_with (go_at_call 26; refine (right_no _ H.out _).mono ?_; rintro e w' ⟨rfl, rfl⟩)
  go_ret
  exact ⟨rfl, rfl⟩
theorem Tab.setMx {w : World} {g : Nat} {A : Option Addr} {c : Nat} {xs : List Fld} {mx : Nat} (h : Tab w g A c xs mx) (m : Nat) (hm : m ≤ 4096) : Tab (w.setCell ⟨g, 2, none⟩ (.int .i64 (m : Int))) g A c xs m := by
  refine ⟨?_, own_setT h.own (tab_ne h) _, h.wt, hm⟩
  have := h.blk.set_ 2 (.int .i64 (m : Int))
  simpa using this
set_option maxHeartbeats 1000000 in
theorem resize_yes {w : World} {g : Nat} {A : Option Addr} {c : Nat} {xs : List Fld} {mx : Nat} (h : Tab w g A c xs mx) (m : Nat) (hm : m ≤ 4096) :
    Calls Try.prog 36 #[.pointer (some ⟨g, 0, none⟩), .int .i64 (m : Int)] w fun e w' => e = .returned .nilIface ∧ Tab w' g A c (shr m xs) m ∧ Keep (tOwn g A) w w' := by
  obtain ⟨_, _, c2⟩ := h.cells
  have f2 := h.blk.frozen 2
  have h2 := Lib.hid (h.setMx m hm)
  have hk := Lib.hid ((Keep.refl (tOwn g A) w).setCell (p := ⟨g, 2, none⟩) (.inl (.inl rfl)) (.int .i64 (m : Int)))
  clear h
  go_enter Try.func36, Try.ntmps36
  go_wp2_with (go_at_call 26; refine (right_yes _ (by omega) (by omega) _).mono ?_; rintro e w' ⟨rfl, rfl⟩)
  go_wp2_with (go_at_call 28; refine (shrink_any h2.out m hm).mono ?_; rintro e w' ⟨rfl, h3, h4⟩)
  go_ret
  exact ⟨rfl, h3, hk.out.trans h4 fun _ hi => .inl hi⟩

theorem alw_reads (w : World) : Reads (w.alloc (.cells (fvs alw).toArray 40)) (w.heap.size + 1) 2 (some ⟨w.heap.size, 0, none⟩) alw.length (fvs alw) := by
  refine ⟨fvs_length _, fun _ => ⟨_, rfl, by simp, fun j u hu => ?_⟩⟩
  rw [Addr.add_lit, Blk.cell (Blk.new _ _ _)]
  simpa using hu
theorem tAll_low {xs : List Fld} {k : Nat} (h : k < 12) : (tAll xs).getD k ([], []) = alw[k]'h := by
  rw [List.getD_eq_getElem?_getD, tAll, List.getElem?_append_left (by rw [alw_len]; exact h), List.getElem?_eq_getElem (by rw [alw_len]; exact h)]
  rfl
theorem tAll_high {xs : List Fld} {k : Nat} (h : k < xs.length) : (tAll xs).getD (12 + k) ([], []) = xs[k] := by
  rw [List.getD_eq_getElem?_getD, tAll, List.getElem?_append_right (by rw [alw_len]; omega), alw_len, Nat.add_sub_cancel_left, List.getElem?_eq_getElem h, Option.getD_some]

/-- Behind a call: the result's own cells. -/
theorem res_behind {w w1 : World} (hb : Below ((w.alloc (.cells #[.string ⟨#[]⟩, .string ⟨#[]⟩] 40)).alloc (.cells (fvs alw).toArray 40)).heap.size ((w.alloc (.cells #[.string ⟨#[]⟩, .string ⟨#[]⟩] 40)).alloc (.cells (fvs alw).toArray 40)) w1) :
    w1.cell? ⟨w.heap.size, 0, none⟩ = some (.string ⟨#[]⟩) ∧ w1.cell? ⟨w.heap.size, 1, none⟩ = some (.string ⟨#[]⟩) ∧ w1.frozen? ⟨w.heap.size, 0, none⟩ = false ∧ w1.frozen? ⟨w.heap.size, 1, none⟩ = false := by
  have hB : Blk ((w.alloc (.cells #[.string ⟨#[]⟩, .string ⟨#[]⟩] 40)).alloc (.cells (fvs alw).toArray 40)) w.heap.size 40 #[.string ⟨#[]⟩, .string ⟨#[]⟩] := (Blk.new w _ _).alloc _
  have h2 : Blk w1 w.heap.size 40 #[.string ⟨#[]⟩, .string ⟨#[]⟩] := hB.below hb (by simp; omega)
  exact ⟨h2.cell 0, h2.cell 1, h2.frozen 0, h2.frozen 1⟩

set_option maxRecDepth 100000 in
set_option maxHeartbeats 4000000 in
theorem get_no {w : World} {g : Nat} {A : Option Addr} {c : Nat} {xs : List Fld} {mx : Nat} (h : Tab w g A c xs mx) (i : Int) (hi : i < 1 ∨ ((12 + xs.length : Nat) : Int) < i) :
    Calls Try.prog 13 #[.pointer (some ⟨g, 0, none⟩), .int .i64 i] w fun e w' => e = .returned (.tuple #[.agg #[.string ⟨#[]⟩, .string ⟨#[]⟩], .iface 23 (.int .i64 5)]) ∧ Below w.heap.size w w' := by
  rcases hi with hi | hi
  · have hd : decide (i < 1) = true := by simpa using hi
    clear hi h
    go_enter Try.func13, Try.ntmps13
    go_wp2_with (go_at_call 30; refine (always_any _).mono ?_; rintro e w' ⟨rfl, rfl⟩)
    exact bodyPost_ret (v := .tuple #[.agg #[.string ⟨#[]⟩, .string ⟨#[]⟩], .iface 23 (.int .i64 5)]) (by simp [results, Try.results13, go_sem]) rfl ⟨rfl, ((Below.refl _ _).alloc (Nat.le_refl _) _).alloc (by simp) _⟩
  · have hd : decide (i < 1) = false := by simp; omega
    have hd2 : decide (12 + (xs.length : Int) < i) = true := by simp; omega
    have hb1 := (Below.refl w.heap.size w).alloc (Nat.le_refl _) (.cells #[.string ⟨#[]⟩, .string ⟨#[]⟩] 40)
    have hb2 := Lib.hid (hb1.alloc hb1.size (.cells (fvs alw).toArray 40))
    have hT := Lib.hid (h.below hb2.out)
    clear hi h hb1
    go_enter Try.func13, Try.ntmps13
    go_wp2_with (go_at_call 30; refine (always_any _).mono ?_; rintro e w' ⟨rfl, rfl⟩)
    go_wp2_with fail
    refine (len_any hT.out).mono ?_
    rintro e w1 ⟨rfl, hb3⟩
    obtain ⟨r0, r1, r2, r3⟩ := res_behind hb3
    have hb4 := Lib.hid (hb2.out.trans (hb3.mono hb2.out.size))
    clear hb3
    go_wp2
    exact bodyPost_ret (v := .tuple #[.agg #[.string ⟨#[]⟩, .string ⟨#[]⟩], .iface 23 (.int .i64 5)]) (by simp [results, Try.results13, go_sem, r0, r1]) rfl ⟨rfl, (hb4.out.setCell (p := ⟨w.heap.size, 0, none⟩) (Nat.le_refl _) _).setCell (p := ⟨w.heap.size, 1, none⟩) (Nat.le_refl _) _⟩

set_option maxRecDepth 100000 in
set_option maxHeartbeats 4000000 in
theorem get_yes {w : World} {g : Nat} {A : Option Addr} {c : Nat} {xs : List Fld} {mx : Nat} (h : Tab w g A c xs mx) (k : Nat) (hk : k < 12 + xs.length) (f : Fld) (hf : (tAll xs).getD k ([], []) = f) :
    Calls Try.prog 13 #[.pointer (some ⟨g, 0, none⟩), .int .i64 ((k : Int) + 1)] w fun e w' => e = .returned (.tuple #[.agg #[.string ⟨f.1.toArray⟩, .string ⟨f.2.toArray⟩], .nilIface]) ∧ Below w.heap.size w w' := by
  have hd : decide ((k : Int) + 1 < 1) = false := by simp; omega
  have hd2 : decide (12 + (xs.length : Int) < (k : Int) + 1) = false := by simp; omega
  have hcap := h.cap.2.2
  have hb1 := (Below.refl w.heap.size w).alloc (Nat.le_refl _) (.cells #[.string ⟨#[]⟩, .string ⟨#[]⟩] 40)
  have hb2 := Lib.hid (hb1.alloc hb1.size (.cells (fvs alw).toArray 40))
  have hT := Lib.hid (h.below hb2.out)
  clear hb1
  by_cases hlow : k < 12
  · have hal := alw_reads (w.alloc (.cells #[.string ⟨#[]⟩, .string ⟨#[]⟩] 40))
    have hr := hal.more (show _ ≤ ((w.alloc (.cells #[.string ⟨#[]⟩, .string ⟨#[]⟩] 40)).alloc (.cells (fvs alw).toArray 40)).heap.size by simp)
    have HR := Lib.hid hr
    rw [tAll_low hlow] at hf
    clear hal hr h
    have hl12 : ((k : Int) + 1 ≤ 12) := by omega
    go_enter Try.func13, Try.ntmps13
    go_wp2_with (go_at_call 30; refine (always_any _).mono ?_; rintro e w' ⟨rfl, rfl⟩)
    go_wp2_with fail
    refine (len_any hT.out).mono ?_
    rintro e w1 ⟨rfl, hb3⟩
    obtain ⟨r0, r1, r2, r3⟩ := res_behind hb3
    obtain ⟨b, off, he, _, hcl⟩ := reads_fld (HR.out.below hb3) (by decide)
    obtain ⟨e1, e2⟩ := hcl k hlow
    cases he
    rw [hf] at e1 e2
    simp only [World.size_alloc, Nat.zero_add] at e1 e2
    have hb4 := Lib.hid (hb2.out.trans (hb3.mono hb2.out.size))
    clear hb3 hcl hf
    go_wp2
    exact bodyPost_ret (v := .tuple #[.agg #[.string ⟨f.1.toArray⟩, .string ⟨f.2.toArray⟩], .nilIface]) (by simp [results, Try.results13, go_sem, r0, r1]) rfl ⟨rfl, (hb4.out.setCell (p := ⟨w.heap.size, 0, none⟩) (Nat.le_refl _) _).setCell (p := ⟨w.heap.size, 1, none⟩) (Nat.le_refl _) _⟩
  · obtain ⟨j, rfl⟩ : ∃ j, k = 12 + j := ⟨k - 12, by omega⟩
    rw [tAll_high (by omega)] at hf
    have hh := hT.out
    obtain ⟨c0, _, _⟩ := hh.cells
    obtain ⟨b, off, rfl, hbB, hcl⟩ := reads_fld (reads_own hh.own) (by omega)
    obtain ⟨e1, e2⟩ := hcl j (by omega)
    rw [hf] at e1 e2
    have hl12 : decide (((12 + j : Nat) : Int) + 1 ≤ 12) = false := by simp; omega
    have hj : ((12 + j : Nat) : Int) = 12 + (j : Int) := by omega
    rw [hj] at hd hd2 hl12 ⊢
    have hj2 : (j : Int) < (xs.length : Int) := by omega
    clear hcl hf hh h hj
    go_enter Try.func13, Try.ntmps13
    go_wp2_with (go_at_call 30; refine (always_any _).mono ?_; rintro e w' ⟨rfl, rfl⟩)
    go_wp2_with fail
    refine (len_any hT.out).mono ?_
    rintro e w1 ⟨rfl, hb3⟩
    obtain ⟨r0, r1, r2, r3⟩ := res_behind hb3
    have q0 := cell_behind hb3 c0
    have q1 := cell_behind hb3 e1
    have q2 := cell_behind hb3 e2
    have hb4 := Lib.hid (hb2.out.trans (hb3.mono hb2.out.size))
    clear hb3 c0 e1 e2
    go_wp2
    exact bodyPost_ret (v := .tuple #[.agg #[.string ⟨f.1.toArray⟩, .string ⟨f.2.toArray⟩], .nilIface]) (by simp [results, Try.results13, go_sem, r0, r1]) rfl ⟨rfl, (hb4.out.setCell (p := ⟨w.heap.size, 0, none⟩) (Nat.le_refl _) _).setCell (p := ⟨w.heap.size, 1, none⟩) (Nat.le_refl _) _⟩
end Go.Proofs.Ytkbbkamnmdeagaa
