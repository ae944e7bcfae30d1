/-
  fields.Tell of the one answer. Condition: the table of powers.
  A connection answers with a head, and sends a body. Condition: the stream is the first; the head is short.
  A connection lets go one piece of a body, the last. Condition: one stream waits.
  A connection sends a body: it goes at once. Condition: the stream is the first, nothing waits.
  A gate says an answer. Conditions: the table of powers; the answer is the one of the closed run.
-/
import Derived.Test.YtbgnggkgmeagkaaGreatDoorMTopLines17
import Derived.Test.YtbgnggkgmeagkaaGreatDoorMTopLines31
import Derived.Test.YtbgnggkgmeagkaaGreatDoorMTopLines26
import Derived.Test.YtbgnggkgmeagkaaGreatDoorMTopLines29
import Derived.Test.YtbgnggkgmeagkaaGreatDoorMTopLines25
import Derived.Test.YtbgnggkgmeagkaaGreatDoorMTopLines30
import Derived.Test.YtbgnggkgmeagkaaGreatDoorMTopLines04
set_option linter.unusedSimpArgs false
set_option linter.unusedVariables false
namespace Go.Proofs.YtbgnggkgmeagkaaGreatDoor
open Go.RowKit Go.Shelf
set_option maxRecDepth 100000 in
set_option maxHeartbeats 1000000 in
theorem ixf_none (f : Value) (w : World) :
    Calls Tryz.prog 175 #[.slice none 0 0, f] w fun e w' => e = .returned (.int .i64 (-1)) ∧ w = w' := by
  go_enter Tryz.func175, Tryz.ntmps175
  go_wp2
  refine wp_loop_rounds 1 ?_
  rw [rounds_succ]
  go_wp2
  go_ret
  exact ⟨rfl, rfl⟩
set_option maxRecDepth 100000 in
set_option maxHeartbeats 1000000 in
theorem delf_none (f : Value) (w : World) :
    Calls Tryz.prog 132 #[.slice none 0 0, f] w fun e w' => e = .returned (.slice none 0 0) ∧ w = w' := by
  go_enter Tryz.func132, Tryz.ntmps132
  go_wp2_with (go_at_call 175; refine (ixf_none _ _).mono ?_; rintro e w' ⟨rfl, rfl⟩)
  go_ret
  exact ⟨rfl, rfl⟩
set_option maxRecDepth 100000 in
theorem clonef_nil (w : World) :
    Calls Tryz.prog 123 #[.slice none 0 0] w fun e w' => e = .returned (.slice none 0 0) ∧ w = w' := by
  have q := Lib.run_eql_slice_nil (P := Tryz.prog) w 22 41 none 0 0 0 0 Tryz.underlying22
  go_enter Tryz.func123, Tryz.ntmps123
  go_wp2
  go_ret
  exact ⟨rfl, rfl⟩
set_option maxRecDepth 100000 in
set_option maxHeartbeats 1000000 in
theorem clean_nil (w : World) :
    Calls Tryz.prog 252 #[.slice none 0 0] w fun e w' => e = .returned (.slice none 0 0) ∧ Below w.heap.size w w' := by
  have hb := Lib.hid ((Below.refl w.heap.size w).alloc (Nat.le_refl _) (.cells #[.slice none 0 0] 87))
  go_enter Tryz.func252, Tryz.ntmps252
  go_wp2
  refine wp_loop_rounds 1 ?_
  rw [rounds_succ]
  go_wp2_with (first
    | (go_at_call 123; refine (clonef_nil _).mono ?_; rintro e w' ⟨rfl, rfl⟩)
    | (go_at_call 132; refine (delf_none _ _).mono ?_; rintro e w' ⟨rfl, rfl⟩))
  go_ret
  exact ⟨rfl, hb.out⟩
theorem itoa_4 (w : World) (hP : Pow w) : Calls Tryz.prog 28 #[.int .i64 4] w fun e w' => e = .returned (.string ⟨#[52]⟩) ∧ Below w.heap.size w w' := by
  have h := itoa_any 4 (by decide) w hP
  have e : Lib.decDigits 4 = [52] := by kernel_rfl
  rw [e] at h
  exact h
def codF : Array Value := #[.string ⟨#[58, 99, 111, 100, 101]⟩, .string ⟨#[50, 48, 48]⟩]
theorem app_none (g : Nat) (w : World) : (Builtin.append_ #[22, 22] 22 #[.slice (some ⟨g, 0, none⟩) 1 1, .slice none 0 0]).run Tryz.prog w = .ok (.slice (some ⟨g, 0, none⟩) 1 1) w := by kernel_rfl
structure FtSt (W : World) (G : Nat) (w' : World) (b0 b1 b2 b3 b4 b5 b6 b7 b8 b9 : Bool) (x11 x12 x13 x14 x15 x16 x17 x18 x19 x5 : Value) : Prop where
  bw : Below W.heap.size W w'
  f0 : b0 = true → x11 = .pointer (some ⟨G, 0, none⟩)
  f1 : b1 = true → x12 = .int .i64 200
  f2 : b2 = true → x13 = .string ⟨#[50, 48, 48]⟩
  f3 : b3 = true → x14 = .agg codF
  f4 : b4 = true → ∃ g, x15 = .slice (some ⟨g, 0, none⟩) 1 1 ∧ W.heap.size ≤ g ∧ Blk w' g 41 codF
  f5 : b5 = true → x16 = .pointer (some ⟨G, 1, none⟩)
  f6 : b6 = true → x17 = .slice none 0 0
  f7 : b7 = true → x18 = .slice none 0 0
  f8 : b8 = true → ∃ g, x19 = .slice (some ⟨g, 0, none⟩) 1 1 ∧ W.heap.size ≤ g ∧ Blk w' g 41 codF
  f9 : b9 = true → ∃ g, x5 = .slice (some ⟨g, 0, none⟩) 1 1 ∧ W.heap.size ≤ g ∧ Blk w' g 41 codF
theorem FtSt.next {W : World} {G : Nat} {w' w'' : World} {b0 b1 b2 b3 b4 b5 b6 b7 b8 b9 : Bool} {x11 x12 x13 x14 x15 x16 x17 x18 x19 x5 : Value} (h : FtSt W G w' b0 b1 b2 b3 b4 b5 b6 b7 b8 b9 x11 x12 x13 x14 x15 x16 x17 x18 x19 x5) (hb : Below W.heap.size W w'') (hk : Below w'.heap.size w' w'') : FtSt W G w'' b0 b1 b2 b3 b4 b5 b6 b7 b8 b9 x11 x12 x13 x14 x15 x16 x17 x18 x19 x5 :=
  ⟨hb,
    h.f0,
    h.f1,
    h.f2,
    h.f3,
    fun hh => by obtain ⟨g, e, hg, h2⟩ := h.f4 hh; exact ⟨g, e, hg, h2.below hk h2.lt⟩,
    h.f5,
    h.f6,
    h.f7,
    fun hh => by obtain ⟨g, e, hg, h2⟩ := h.f8 hh; exact ⟨g, e, hg, h2.below hk h2.lt⟩,
    fun hh => by obtain ⟨g, e, hg, h2⟩ := h.f9 hh; exact ⟨g, e, hg, h2.below hk h2.lt⟩⟩
set_option maxRecDepth 100000 in
set_option maxHeartbeats 4000000 in
theorem ft_tell {w w0 : World} {F : List Atom} {io bc : Nat} {BA : Option Addr} (hP : Pow w0) (hio : F[io]? = some (oldA w0)) (h : Sep w F) :
    Calls Tryz.prog 182 #[.agg (repV 200 (.slice none 0 0) (.slice BA 4 bc))] w fun e w' => ∃ LA lc, e = .returned (.tuple #[.slice LA 2 lc, .nilIface]) ∧ Sep w' (rowA 41 2 (.slice LA 2 lc) 2 (fvs repL) :: F) := by
  have h0 := h.newBlk 69 (repV 200 (.slice none 0 0) (.slice BA 4 bc))
  obtain ⟨W, hW⟩ : ∃ W, w.alloc (.cells (repV 200 (.slice none 0 0) (.slice BA 4 bc)) 69) = W := ⟨_, rfl⟩
  rw [hW] at h0
  have kG := h0.at_ (i := 0) rfl
  unfold repV at kG hW
  have H0 := Lib.hid h0
  have HC := Lib.hid (show Calls Tryz.prog 117 #[.agg #[.int .i64 200, .slice none 0 0, .slice BA 4 bc], .int .i64 0] W fun e w' => e = .returned .nilIface ∧ Below W.heap.size W w' from ct_ok 0 none 0 BA bc W)
  clear h h0
  go_enter Tryz.func182, Tryz.ntmps182
  unfold repV
  go_wp2_with fail
  refine HC.out.mono ?_
  rintro e w1 ⟨rfl, hb1⟩
  have h1 := H0.out.below hb1
  have H1 := Lib.hid h1
  clear kG hb1 hW HC H0 h1
  have HZ := Lib.hid (show ∀ w', Below w1.heap.size w1 w' → w'.cell? ⟨w.heap.size, 0, none⟩ = some (.int .i64 200) ∧ w'.cell? ⟨w.heap.size, 1, none⟩ = some (.slice none 0 0) ∧ Pow w' ∧ w.heap.size < w'.heap.size from fun w' hb => by
    have h2 := H1.out.below hb
    have k := h2.at_ (i := 0) rfl
    exact ⟨k.1 0, k.1 1, hP.next (h2.old (i := io + 1) hio), k.2.2⟩)
  go_wp2_with fail
  refine region_dagP (by kernel_rfl) (fun a w' => ∃ x11 x12 x13 x14 x15 x16 x17 x18 x19 x5, a = { tmps := #[.agg (repV 200 (.slice none 0 0) (.slice BA 4 bc)), .pointer (some ⟨w.heap.size, 0, none⟩), .slice none 0 0, .nilIface, .nilIface, x5, .agg #[.int .i64 200, .slice none 0 0, .slice BA 4 bc], .nilIface, .nilIface, .bool false, undef, x11, x12, x13, x14, x15, x16, x17, x18, x19, undef, undef, undef, undef, undef, undef, undef, undef, undef, undef, undef, undef, undef], defers := [] } ∧ FtSt w1 w.heap.size w' true true true true true true true true true true x11 x12 x13 x14 x15 x16 x17 x18 x19 x5) (fun listed a w' => ∃ b0 b1 b2 b3 b4 b5 b6 b7 b8 b9 x11 x12 x13 x14 x15 x16 x17 x18 x19 x5, listed = #[b0, b1, b2, b3, b4, b5, b6, b7, b8, b9] ∧ a = { tmps := #[.agg (repV 200 (.slice none 0 0) (.slice BA 4 bc)), .pointer (some ⟨w.heap.size, 0, none⟩), .slice none 0 0, .nilIface, .nilIface, x5, .agg #[.int .i64 200, .slice none 0 0, .slice BA 4 bc], .nilIface, .nilIface, .bool false, undef, x11, x12, x13, x14, x15, x16, x17, x18, x19, undef, undef, undef, undef, undef, undef, undef, undef, undef, undef, undef, undef, undef], defers := [] } ∧ FtSt w1 w.heap.size w' b0 b1 b2 b3 b4 b5 b6 b7 b8 b9 x11 x12 x13 x14 x15 x16 x17 x18 x19 x5) ?fin ?init ?hend ?hstep
  case init =>
    exact ⟨false, false, false, false, false, false, false, false, false, false, undef, undef, undef, undef, undef, undef, undef, undef, undef, undef, rfl, rfl, ⟨(Below.refl _ _).drew, (by intro h; cases h), (by intro h; cases h), (by intro h; cases h), (by intro h; cases h), (by intro h; cases h), (by intro h; cases h), (by intro h; cases h), (by intro h; cases h), (by intro h; cases h), (by intro h; cases h)⟩⟩
  case hend =>
    intro listed a w' hI hr
    have hno : ∀ i, i ∈ Region.ready .any _ listed → False := fun i hi => by rw [hr] at hi; cases hi
    clear hr
    obtain ⟨b0, b1, b2, b3, b4, b5, b6, b7, b8, b9, x11, x12, x13, x14, x15, x16, x17, x18, x19, x5, rfl, rfl, hs⟩ := hI
    cases b0
    · exact (hno 0 (mem_ready.2 ⟨rfl, _, rfl, by simp [Region.binds]⟩)).elim
    cases b1
    · exact (hno 1 (mem_ready.2 ⟨rfl, _, rfl, by simp [Region.binds]⟩)).elim
    cases b2
    · exact (hno 2 (mem_ready.2 ⟨rfl, _, rfl, by simp [Region.binds]⟩)).elim
    cases b3
    · exact (hno 3 (mem_ready.2 ⟨rfl, _, rfl, by simp [Region.binds]⟩)).elim
    cases b4
    · exact (hno 4 (mem_ready.2 ⟨rfl, _, rfl, by simp [Region.binds]⟩)).elim
    cases b5
    · exact (hno 5 (mem_ready.2 ⟨rfl, _, rfl, by simp [Region.binds]⟩)).elim
    cases b6
    · exact (hno 6 (mem_ready.2 ⟨rfl, _, rfl, by simp [Region.binds]⟩)).elim
    cases b7
    · exact (hno 7 (mem_ready.2 ⟨rfl, _, rfl, by simp [Region.binds]⟩)).elim
    cases b8
    · exact (hno 8 (mem_ready.2 ⟨rfl, _, rfl, by simp [Region.binds]⟩)).elim
    cases b9
    · exact (hno 9 (mem_ready.2 ⟨rfl, _, rfl, by simp [Region.binds]⟩)).elim
    exact ⟨_, _, _, _, _, _, _, _, _, _, rfl, hs⟩
  case hstep =>
    intro listed a w' i hI hi
    obtain ⟨hl, o, ho, hd⟩ := mem_ready.1 hi
    have hlt : i < 10 := (Array.getElem?_eq_some_iff.1 ho).1
    clear hi
    obtain ⟨b0, b1, b2, b3, b4, b5, b6, b7, b8, b9, x11, x12, x13, x14, x15, x16, x17, x18, x19, x5, rfl, rfl, hs⟩ := hI
    obtain rfl | rfl | rfl | rfl | rfl | rfl | rfl | rfl | rfl | rfl : i = 0 ∨ i = 1 ∨ i = 2 ∨ i = 3 ∨ i = 4 ∨ i = 5 ∨ i = 6 ∨ i = 7 ∨ i = 8 ∨ i = 9 := by omega
    · obtain rfl := Option.some.inj ho
      have HS := Lib.hid hs
      clear hs hd hl
      refine wpOp_step1 rfl (by rfl) ?_
      intro K' hK
      go_simp
      exact hK _ _ ⟨true, b1, b2, b3, b4, b5, b6, b7, b8, b9, _, _, _, _, _, _, _, _, _, _, rfl, rfl, { HS.out with f0 := fun _ => rfl }⟩
    · obtain rfl := Option.some.inj ho
      have e0 : b0 = true := hd ⟨0, .data⟩ (by simp) rfl
      obtain rfl := hs.f0 e0
      have z := (HZ.out _ hs.bw).1
      have zl := (HZ.out _ hs.bw).2.2.2
      have HS := Lib.hid hs
      clear hs hd hl
      refine wpOp_step1 rfl (by rfl) ?_
      intro K' hK
      go_simp
      exact hK _ _ ⟨b0, true, b2, b3, b4, b5, b6, b7, b8, b9, _, _, _, _, _, _, _, _, _, _, rfl, rfl, { HS.out with f1 := fun _ => rfl }⟩
    · obtain rfl := Option.some.inj ho
      have e1 : b1 = true := hd ⟨1, .data⟩ (by simp) rfl
      obtain rfl := hs.f1 e1
      have HPw := Lib.hid (HZ.out _ hs.bw).2.2.1
      have HS := Lib.hid hs
      clear hs hd hl
      refine wpOp_step1 rfl (by rfl) ?_
      intro K' hK
      go_simp
      go_at_call 28
      refine (itoa_200 _ HPw.out).mono ?_
      rintro e wi ⟨rfl, hk'⟩
      have hb' := HS.out.bw.trans (hk'.mono HS.out.bw.size)
      exact hK _ _ ⟨b0, b1, true, b3, b4, b5, b6, b7, b8, b9, _, _, _, _, _, _, _, _, _, _, rfl, rfl, { HS.out.next hb' hk' with f2 := fun _ => rfl }⟩
    · obtain rfl := Option.some.inj ho
      have e2 : b2 = true := hd ⟨2, .data⟩ (by simp) rfl
      obtain rfl := hs.f2 e2
      have HS := Lib.hid hs
      clear hs hd hl
      refine wpOp_step1 rfl (by rfl) ?_
      intro K' hK
      go_simp
      exact hK _ _ ⟨b0, b1, b2, true, b4, b5, b6, b7, b8, b9, _, _, _, _, _, _, _, _, _, _, rfl, rfl, { HS.out with f3 := fun _ => rfl }⟩
    · obtain rfl := Option.some.inj ho
      have e3 : b3 = true := hd ⟨3, .data⟩ (by simp) rfl
      obtain rfl := hs.f3 e3
      have hb' := hs.bw.alloc hs.bw.size (.cells codF 41)
      have hk' := (Below.refl _ w').alloc (Nat.le_refl _) (.cells codF 41)
      have HB := Lib.hid (Blk.new w' 41 codF)
      unfold codF at hb' hk' ⊢
      have HS := Lib.hid hs
      clear hs hd hl
      refine wpOp_step1 rfl (by rfl) ?_
      intro K' hK
      go_simp
      exact hK _ _ ⟨b0, b1, b2, b3, true, b5, b6, b7, b8, b9, _, _, _, _, _, _, _, _, _, _, rfl, rfl, { HS.out.next hb' hk' with f4 := fun _ => ⟨_, rfl, HS.out.bw.size, HB.out⟩ }⟩
    · obtain rfl := Option.some.inj ho
      have HS := Lib.hid hs
      clear hs hd hl
      refine wpOp_step1 rfl (by rfl) ?_
      intro K' hK
      go_simp
      exact hK _ _ ⟨b0, b1, b2, b3, b4, true, b6, b7, b8, b9, _, _, _, _, _, _, _, _, _, _, rfl, rfl, { HS.out with f5 := fun _ => rfl }⟩
    · obtain rfl := Option.some.inj ho
      have e5 : b5 = true := hd ⟨5, .data⟩ (by simp) rfl
      obtain rfl := hs.f5 e5
      have z := (HZ.out _ hs.bw).2.1
      have zl := (HZ.out _ hs.bw).2.2.2
      have HS := Lib.hid hs
      clear hs hd hl
      refine wpOp_step1 rfl (by rfl) ?_
      intro K' hK
      go_simp
      exact hK _ _ ⟨b0, b1, b2, b3, b4, b5, true, b7, b8, b9, _, _, _, _, _, _, _, _, _, _, rfl, rfl, { HS.out with f6 := fun _ => rfl }⟩
    · obtain rfl := Option.some.inj ho
      have e6 : b6 = true := hd ⟨6, .data⟩ (by simp) rfl
      obtain rfl := hs.f6 e6
      have HS := Lib.hid hs
      clear hs hd hl
      refine wpOp_step1 rfl (by rfl) ?_
      intro K' hK
      go_simp
      go_at_call 252
      refine (clean_nil _).mono ?_
      rintro e wi ⟨rfl, hk'⟩
      have hb' := HS.out.bw.trans (hk'.mono HS.out.bw.size)
      exact hK _ _ ⟨b0, b1, b2, b3, b4, b5, b6, true, b8, b9, _, _, _, _, _, _, _, _, _, _, rfl, rfl, { HS.out.next hb' hk' with f7 := fun _ => rfl }⟩
    · obtain rfl := Option.some.inj ho
      have e7 : b7 = true := hd ⟨7, .data⟩ (by simp) rfl
      obtain rfl := hs.f7 e7
      have e4 : b4 = true := hd ⟨4, .data⟩ (by simp) rfl
      obtain ⟨g, rfl, hg, hB⟩ := hs.f4 e4
      have HG := Lib.hid hg
      have HB := Lib.hid hB
      clear hg hB
      have HS := Lib.hid hs
      clear hs hd hl
      refine wpOp_step1 rfl (by rfl) ?_
      intro K' hK
      refine wp_append_run _ _ _ _ rfl _ _ rfl rfl _ _ (app_none g _) ?_
      exact hK _ _ ⟨b0, b1, b2, b3, b4, b5, b6, b7, true, b9, _, _, _, _, _, _, _, _, _, _, rfl, rfl, { HS.out with f8 := fun _ => ⟨g, rfl, HG.out, HB.out⟩ }⟩
    · obtain rfl := Option.some.inj ho
      have e8 : b8 = true := hd ⟨8, .data⟩ (by simp) rfl
      obtain ⟨g, rfl, hg, hB⟩ := hs.f8 e8
      have HG := Lib.hid hg
      have HB := Lib.hid hB
      clear hg hB
      have HS := Lib.hid hs
      clear hs hd hl
      refine wpOp_step1 rfl (by rfl) ?_
      intro K' hK
      go_simp
      exact hK _ _ ⟨b0, b1, b2, b3, b4, b5, b6, b7, b8, true, _, _, _, _, _, _, _, _, _, _, rfl, rfl, { HS.out with f9 := fun _ => ⟨g, rfl, HG.out, HB.out⟩ }⟩
  case fin =>
    rintro a w' ⟨x11, x12, x13, x14, x15, x16, x17, x18, x19, x5, rfl, hs⟩
    obtain ⟨g, rfl, hg, hB⟩ := hs.f9 rfl
    have h2 := H1.out.below hs.bw
    have hrow : w'.ownsRow w1.heap.size 41 2 (.slice (some ⟨g, 0, none⟩) 1 1) 1 (fvs [([58, 99, 111, 100, 101], [50, 48, 48])]) :=
      ⟨rfl, .inr ⟨g, 1, codF, rfl, hg, hB, Nat.le_refl _, by decide, rfl, rfl⟩⟩
    have h3 := H1.out.newRow hs.bw hrow
    have kG := h3.at_ (i := 1) rfl
    have hP3 := hP.next (h3.old (i := io + 2) hio)
    have H3 := Lib.hid h3
    have HP3 := Lib.hid hP3
    unfold repV at kG
    clear hs hg hB h2 hrow h3 hP3 HZ H1
    simp only
    go_wp2_with fail
    refine (bare_no _).mono ?_
    rintro e w4 ⟨rfl, rfl⟩
    go_wp2_with fail
    refine (itoa_4 _ HP3.out).mono ?_
    rintro e w5 ⟨rfl, hb5⟩
    have h5 := (H3.out.below hb5).newBlk 41 #[.string ⟨#[108, 101, 110, 103, 116, 104]⟩, .string ⟨#[52]⟩]
    have H5 := Lib.hid h5
    clear h5 hb5 H3 kG HP3
    go_wp2_with (at_builtin; refine wpList_pushS rfl _ _ 22 41 rfl Tryz.underlying22 fld_info rfl (by decide) (by decide) _ 1 _ H5.out (i := 1) rfl rfl _ _ (j := 0) rfl rfl (by intro u hu; simp at hu; rcases hu with rfl | rfl <;> rfl) rfl (by decide) ?_; intro A6 c6 w6 h6 _; have H6 := Lib.hid h6; clear h6)
    go_ret2
    exact ⟨A6, c6, rfl, (H6.out.tail).drop_ 1⟩
end Go.Proofs.YtbgnggkgmeagkaaGreatDoor
namespace Go.Proofs.YtbgnggkgmeagkaaGreatDoor
open Go.RowKit Go.Shelf
set_option maxRecDepth 100000 in
set_option maxHeartbeats 1000000 in
theorem cn_may_head {w : World} {L : List Atom} {i i1 j kb C S M MS sc : Nat} {ord inn out part evs : Value} {iw ow un : Int} {began : Bool} (h : Sep w L) (hi : L[i]? = some (blkA kb 200 (conV C S M ord inn out iw ow un began part evs)))
    (hi1 : L[i1]? = some (blkA S 254 (stmV MS 1))) (hj : L[j]? = some (mapA MS (ent1 (.int .i64 2)) sc)) :
    Calls Tryz.prog 223 #[.pointer (some ⟨kb, 0, none⟩), .int .i64 1, .int .i64 1, .bool false] w fun e w' => e = .returned (.tuple #[.int .i64 2, .nilIface]) ∧ w = w' := by
  have kK := h.at_ hi
  have HS := Lib.hid (sm_state1 h hi1 hj)
  unfold conV at kK
  clear h hi hi1 hj
  go_enter Tryz.func223, Tryz.ntmps223
  go_wp2_with fail
  refine HS.out.mono ?_
  rintro e w' ⟨rfl, rfl⟩
  go_wp2_with fail
  refine (st_say_head w).mono ?_
  rintro e w' ⟨rfl, rfl⟩
  go_wp2
  go_ret2
  exact ⟨rfl, rfl⟩
set_option maxRecDepth 100000 in
set_option maxHeartbeats 1000000 in
theorem cn_may_data {w : World} {L : List Atom} {i i1 j kb C S M MS sc : Nat} {ord inn out part evs : Value} {iw ow un : Int} {began : Bool} (h : Sep w L) (hi : L[i]? = some (blkA kb 200 (conV C S M ord inn out iw ow un began part evs)))
    (hi1 : L[i1]? = some (blkA S 254 (stmV MS 1))) (hj : L[j]? = some (mapA MS (ent1 (.int .i64 2)) sc)) :
    Calls Tryz.prog 223 #[.pointer (some ⟨kb, 0, none⟩), .int .i64 1, .int .i64 0, .bool true] w fun e w' => e = .returned (.tuple #[.int .i64 4, .nilIface]) ∧ w = w' := by
  have kK := h.at_ hi
  have HS := Lib.hid (sm_state1 h hi1 hj)
  unfold conV at kK
  clear h hi hi1 hj
  go_enter Tryz.func223, Tryz.ntmps223
  go_wp2_with fail
  refine HS.out.mono ?_
  rintro e w' ⟨rfl, rfl⟩
  go_wp2_with fail
  refine (st_say_data w).mono ?_
  rintro e w' ⟨rfl, rfl⟩
  go_wp2
  go_ret2
  exact ⟨rfl, rfl⟩
def rhdF : Frm := ⟨1, 4, 1, rblkL⟩
def rhdB : List UInt8 := [0, 0, 4, 1, 4, 0, 0, 0, 1, 133, 71, 1, 52]
theorem rhdF_ok : frmE rhdF = 0 ∧ frmL rhdF = rhdB := by decide
theorem rep_said : saidL 4096 [] repL = rblkL ∧ saidE repL = 0 := ⟨by kernel_rfl, by kernel_rfl⟩
theorem rep_fok : ∀ f ∈ repL, fOk f := by
  intro f hf
  simp only [repL, List.mem_cons, List.not_mem_nil, or_false] at hf
  rcases hf with rfl | rfl <;> (constructor <;> decide)
set_option maxRecDepth 100000 in
set_option maxHeartbeats 4000000 in
theorem cn_answer {w : World} {F : List Atom} {kb C S M MS X n c mc sc gg hh lc : Nat} {A LA : Option Addr} {ord inn part evs q : Value} {xs : List UInt8} {iw ow un ci co cu : Int} {began en : Bool} (hn : n ≤ 1000)
    (h : Sep w (blkA C 93 (coderV gg hh) :: tabA gg none 0 [] 4096 :: blkA kb 200 (conV C S M ord inn (.slice A n c) iw ow un began part evs) :: rowA 5 1 (.slice A n c) n (bs xs) :: mapA M (ent1 (.pointer (some ⟨X, 0, none⟩))) mc ::
      blkA X 313 (chnV ci co cu q false en) :: blkA S 254 (stmV MS 1) :: mapA MS (ent1 (.int .i64 2)) sc :: rowA 41 2 (.slice LA 2 lc) 2 (fvs repL) :: F)) :
    Calls Tryz.prog 184 #[.pointer (some ⟨kb, 0, none⟩), .int .i64 1, .slice LA 2 lc, .bool false] w fun e w' => e = .returned .nilIface ∧ ∃ A' c', Sep w' (blkA kb 200 (conV C S M ord inn (.slice A' (n + 13) c') iw ow un began part evs) :: rowA 5 1 (.slice A' (n + 13) c') (n + 13) (bs (xs ++ rhdB)) :: mapA M (ent1 (.pointer (some ⟨X, 0, none⟩))) mc ::
      blkA X 313 (chnV ci co cu q false en) :: blkA S 254 (stmV MS 1) :: mapA MS (ent1 (.int .i64 2)) sc :: F) := by
  have kK := h.at_ (i := 2) rfl
  have kC := h.at_ (i := 5) rfl
  have H := Lib.hid h
  unfold conV at kK
  unfold chnV at kC
  clear h
  go_enter Tryz.func184, Tryz.ntmps184
  go_wp2_with fail
  refine (cn_may_head H.out (i := 2) (i1 := 6) (j := 7) rfl rfl rfl).mono ?_
  rintro e w' ⟨rfl, rfl⟩
  go_wp2_with fail
  refine (nc_old H.out (i := 2) (j := 4) rfl rfl).mono ?_
  rintro e w' ⟨rfl, rfl⟩
  go_wp2_with fail
  refine (sep_encode H.out repL rep_fok (by decide) rep_said.2 LA _ lc 6 rfl rfl).mono ?_
  rintro e w2 ⟨PA, n2, pc, rfl, rfl, h2⟩
  rw [rep_said.1] at h2 ⊢
  clear kK kC H
  have hcap := h2.cap (i := 0) rfl
  have HR := Lib.hid (reads_sep h2 (i := 0) rfl)
  have H2 := Lib.hid h2
  clear h2
  go_wp2_with fail
  refine (split_one 1 rblkL PA rblkL.length pc rfl (by decide) (by decide) hcap false w2 HR.out).mono ?_
  rintro e w3 ⟨g, c3, A3, ac, rfl, hb3, ⟨q0, q1, q2, q3⟩, hr3⟩
  simp only [Bool.false_eq_true, if_false, Int.zero_add] at q1
  have h3 := H2.out.below hb3
  have HR3 := Lib.hid hr3
  have hgl := World.block_lt_of_cell? w3 _ q0
  have H3 := Lib.hid h3
  clear h3 hr3 H2 HR hb3 hcap
  go_wp2
  refine wp_loop_rounds 2 ?_
  rw [rounds_succ]
  go_wp2_with fail
  have h4 := H3.out.newBlk 134 #[.int .i64 1, .int .i64 4, .int .i64 1, .slice A3 rblkL.length ac]
  have hba := (Below.refl w3.heap.size w3).alloc (Nat.le_refl _) (.cells #[.int .i64 1, .int .i64 4, .int .i64 1, .slice A3 rblkL.length ac] 134)
  have HR4 := Lib.hid ((HR3.out.below hba).more hba.size)
  have H4 := Lib.hid ((h4.front 4 rfl).front 4 rfl)
  clear h4 hba HR3 H3 q0 q1 q2 q3 hgl
  refine (nsay rhdF rhdF_ok.1 A3 ac HR4.out kb (xs := xs) (by omega) H4.out).mono ?_
  rintro e w5 ⟨rfl, A5, c5, h5⟩
  rw [rhdF_ok.2] at h5
  have kK := h5.at_ (i := 0) rfl
  have H5 := Lib.hid h5
  clear h5 H4 HR4
  go_wp2
  rw [rounds_succ]
  go_wp2_with fail
  refine (sm_put (.inr (.inr (.inl ⟨rfl, rfl⟩))) H5.out (i := 7) (j := 8) rfl rfl).mono ?_
  rintro e w6 ⟨rfl, h6⟩
  have H6 := Lib.hid h6
  clear h6 H5 kK
  go_wp2
  go_ret
  exact ⟨rfl, A5, c5, (((H6.out.drop_ 2).drop_ 2).drop_ 2).drop_ 6⟩
end Go.Proofs.YtbgnggkgmeagkaaGreatDoor
namespace Go.Proofs.YtbgnggkgmeagkaaGreatDoor
open Go.RowKit
set_option maxRecDepth 100000 in
set_option maxHeartbeats 1000000 in
theorem np_fn {w : World} {L : List Atom} {i1 i2 i3 i4 B kb C S M X c : Nat} {ord inn out part evs q : Value} {iw ow un ci co cu : Int} {began en : Bool} (h : Sep w L) (h1 : L[i1]? = some (blkA B 111 #[.pointer (some ⟨kb, 0, none⟩)]))
    (h2 : L[i2]? = some (blkA kb 200 (conV C S M ord inn out iw ow un began part evs))) (h3 : L[i3]? = some (mapA M (ent1 (.pointer (some ⟨X, 0, none⟩))) c)) (h4 : L[i4]? = some (blkA X 313 (chnV ci co cu q false en))) :
    Calls Tryz.prog 302 #[.int .i64 1, .pointer (some ⟨B, 0, none⟩)] w fun e w' => e = .returned (.bool true) ∧ w = w' := by
  have k1 := h.at_ h1
  have k2 := h.at_ h2
  have k4 := h.at_ h4
  have ql := run_look (P := Tryz.prog) (t := 196) (k := .int .i64 1) Tryz.underlying196 Tryz.underlying3 rfl (h.map_ h3) (i := 0) (by rfl) false
  unfold conV at k2
  unfold chnV at k4
  clear h h1 h2 h3 h4
  go_enter Tryz.func302, Tryz.ntmps302
  go_wp2
  go_ret
  exact ⟨rfl, rfl⟩
theorem min_four (w : World) : (Builtin.min_ #[3, 3, 3, 3] 3 #[.int .i64 4, .int .i64 1024, .int .i64 2000, .int .i64 2000]).run Tryz.prog w = .ok (.int .i64 4) w := by kernel_rfl
def bdyF : Frm := ⟨0, 1, 1, bodyL⟩
def bdyB : List UInt8 := [0, 0, 4, 0, 1, 0, 0, 0, 1, 47, 112, 33, 120]
theorem bdyF_ok : frmE bdyF = 0 ∧ frmL bdyF = bdyB := by decide
set_option maxRecDepth 100000 in
set_option maxHeartbeats 8000000 in
theorem np_one {w : World} {F : List Atom} {kb C S M MS X n c oc qc mc sc : Nat} {A OA QA : Option Addr} {inn part evs : Value} {xs : List UInt8} {iw un ci cu : Int} {began : Bool} (hn : n ≤ 1000)
    (h : Sep w (blkA kb 200 (conV C S M (.slice OA 1 oc) inn (.slice A n c) iw 2000 un began part evs) :: rowA 5 1 (.slice A n c) n (bs xs) :: rowA 3 1 (.slice OA 1 oc) 1 [.int .i64 1] :: mapA M (ent1 (.pointer (some ⟨X, 0, none⟩))) mc ::
      blkA X 313 (chnV ci 2000 cu (.slice QA 4 qc) true true) :: rowA 5 1 (.slice QA 4 qc) 4 (bs bodyL) :: blkA S 254 (stmV MS 1) :: mapA MS (ent1 (.int .i64 2)) sc :: F)) :
    Calls Tryz.prog 253 #[.pointer (some ⟨kb, 0, none⟩)] w fun e w' => e = .returned (.tuple #[]) ∧ ∃ A' c' Q', Sep w' (blkA kb 200 (conV C S M (.slice OA 0 oc) inn (.slice A' (n + 13) c') iw 1996 un began part evs) :: rowA 5 1 (.slice A' (n + 13) c') (n + 13) (bs (xs ++ bdyB)) :: rowA 3 1 (.slice OA 0 oc) 0 [] :: mapA M (ent1 (.pointer (some ⟨X, 0, none⟩))) mc ::
      blkA X 313 (chnV ci 1996 cu Q' false true) :: rowA 5 1 (.slice QA 4 qc) 4 (bs bodyL) :: blkA S 254 (stmV MS 1) :: mapA MS (ent1 (.int .i64 4)) sc :: F) := by
  obtain ⟨og, rfl, o0, -, -, -⟩ := row_one h (i := 2) rfl
  obtain ⟨qg, rfl, -⟩ := h.rowAt (i := 5) rfl (by decide)
  have hqc := h.cap (i := 5) rfl
  have h1 := h.newBlk 111 #[.pointer (some ⟨kb, 0, none⟩)]
  have kX := h1.at_ (i := 0) rfl
  have kK := h1.at_ (i := 1) rfl
  have HC := Lib.hid (ci_some h1 (i := 3) rfl ⟨og, rfl⟩ (by decide) (by simp [Value.oneCell']))
  have qm := min_four
  unfold conV at kK
  clear h h1 o0
  go_enter Tryz.func253, Tryz.ntmps253
  go_wp2_with fail
  refine HC.out.mono ?_
  rintro e w2 ⟨A', c', rfl, h2⟩
  obtain ⟨rg, rfl, r0, -, -, -⟩ := row_one h2 (i := 0) rfl
  clear kX kK HC
  have kX := h2.at_ (i := 1) rfl
  have kK := h2.at_ (i := 2) rfl
  have kC := h2.at_ (i := 6) rfl
  have ql := run_look (P := Tryz.prog) (t := 196) (k := .int .i64 1) Tryz.underlying196 Tryz.underlying3 rfl (h2.map_ (i := 5) rfl) (i := 0) (by rfl) false
  have H2 := Lib.hid h2
  unfold conV at kK
  unfold chnV at kC
  clear h2
  go_wp2
  refine wp_loop_rounds 2 ?_
  rw [rounds_succ]
  go_wp2
  refine wp_loop_rounds 2 ?_
  rw [rounds_succ]
  go_wp2
  go_quiet (first
    | (go_at_call 106; refine Calls.quiet_of_same (fl_left ⟨kb, 7, none⟩ 2000 _ ?_); exact kK.1 7)
    | (go_at_call 106; refine Calls.quiet_of_same (fl_left ⟨X, 1, none⟩ 2000 _ ?_); exact kC.1 1))
  obtain ⟨w3, hw3⟩ : ∃ w3, w2.drewN nq = w3 := ⟨_, rfl⟩
  have h3 := H2.out.drewN nq
  rw [hw3] at h3 ⊢
  clear kX kK kC ql r0 H2 hw3 qm
  have kX := h3.at_ (i := 1) rfl
  have kK := h3.at_ (i := 2) rfl
  have kC := h3.at_ (i := 6) rfl
  have H3 := Lib.hid h3
  unfold conV at kK
  unfold chnV at kC
  clear h3
  go_wp2_with fail
  refine (fl_takeS H3.out (i := 2) (b := kb) (o := 7) (n := 2000) (k := 4) rfl rfl (by decide) (by decide)).mono ?_
  rintro e w4 ⟨rfl, h4⟩
  change Sep w4 (_ :: _ :: blkA kb _ (conV C S M (.slice (some ⟨og, 0, none⟩) 1 oc) inn (.slice A n c) iw 1996 un began part evs) :: _) at h4
  clear kX kK kC
  have H4 := Lib.hid h4
  clear h4 H3
  go_wp2_with fail
  refine (fl_takeS H4.out (i := 6) (b := X) (o := 1) (n := 2000) (k := 4) rfl rfl (by decide) (by decide)).mono ?_
  rintro e w5 ⟨rfl, h5⟩
  change Sep w5 (_ :: _ :: _ :: _ :: _ :: _ :: blkA X _ (chnV ci 1996 cu (.slice (some ⟨qg, 0, none⟩) 4 qc) true true) :: _) at h5
  have kX := h5.at_ (i := 1) rfl
  have kK := h5.at_ (i := 2) rfl
  have kC := h5.at_ (i := 6) rfl
  have n1 := h5.ne_ (i := 6) (i' := 1) rfl rfl (by decide)
  have n2 := Ne.symm n1
  have n3 := h5.ne_ (i := 6) (i' := 2) rfl rfl (by decide)
  have n4 := Ne.symm n3
  have H5 := Lib.hid h5
  unfold conV at kK
  unfold chnV at kC
  clear h5 H4
  by_cases hq1 : qc = 4
  · subst hq1
    go_wp2_with fail
    obtain ⟨w6, hw6⟩ : ∃ w6, (w5.setCell ⟨X, 3, none⟩ (.slice (some ⟨qg, 0, none⟩) 0 0)).setCell ⟨X, 4, none⟩ (.bool false) = w6 := ⟨_, rfl⟩
    have h6 := (H5.out.set_ (i := 6) rfl 3 (.slice (some ⟨qg, 0, none⟩) 0 0)).set_ (i := 6) rfl 4 (.bool false)
    rw [hw6] at h6 ⊢
    change Sep w6 (_ :: _ :: _ :: _ :: _ :: _ :: blkA X _ (chnV ci 1996 cu (.slice (some ⟨qg, 0, none⟩) 0 0) false true) :: _) at h6
    clear kX kK kC n1 n2 n3 n4 H5 hw6
    have kX := h6.at_ (i := 1) rfl
    have kK := h6.at_ (i := 2) rfl
    have H6 := Lib.hid h6
    unfold conV at kK
    clear h6
    refine (sm_state1 H6.out (i := 8) (j := 9) rfl rfl).mono ?_
    rintro e w' ⟨rfl, rfl⟩
    go_wp2_with fail
    refine (st_say_data w6).mono ?_
    rintro e w' ⟨rfl, rfl⟩
    go_wp2_with fail
    refine (sm_put (.inr (.inr (.inr ⟨rfl, rfl⟩))) H6.out (i := 8) (j := 9) rfl rfl).mono ?_
    rintro e w7 ⟨rfl, h7⟩
    clear kX kK H6
    have kX := h7.at_ (i := 1) rfl
    have HR := Lib.hid (reads_sep h7 (i := 7) rfl)
    have H7 := Lib.hid ((h7.front 3 rfl).front 3 rfl)
    clear h7
    go_wp2_with fail
    refine (nsay bdyF bdyF_ok.1 (some ⟨qg, 0, none⟩) 4 HR.out kb (xs := xs) (by omega) H7.out).mono ?_
    rintro e w8 ⟨rfl, A8, c8, h8⟩
    rw [bdyF_ok.2] at h8
    clear kX HR H7
    have kX := h8.at_ (i := 3) rfl
    have kK := h8.at_ (i := 0) rfl
    have kC := h8.at_ (i := 6) rfl
    have H8 := Lib.hid (h8.drew.front 4 rfl)
    unfold chnV at kC
    clear h8
    go_wp2
    rw [rounds_succ]
    go_wp2
    rw [rounds_succ]
    go_wp2
    have HF := Lib.hid (np_fn H8.out (i1 := 4) (i2 := 1) (i3 := 5) (i4 := 6) rfl rfl rfl rfl)
    go_region_with (go_at_call 108; refine (del_one_n H8.out HF.out).mono ?_; rintro e w9 ⟨rfl, h9⟩; change Sep w9 (rowA _ 1 _ 0 [] :: blkA kb _ _ :: _) at h9; have kK9 := h9.at_ (i := 1) rfl; have kX9 := h9.at_ (i := 4) rfl; have H9 := Lib.hid h9; clear h9)
    all_goals
      go_wp2
      refine bodyPost_end (results_none rfl _ _ _) rfl ?_
      have h10 := H9.out.set_ (i := 1) rfl 3 (.slice (some ⟨og, 0, none⟩) 0 oc)
      exact ⟨rfl, A8, c8, _, (((h10.drop_ 3).drop_ 3).front 2 rfl).front 2 rfl⟩
  · have hq2 : 4 < qc := by omega
    go_wp2_with fail
    obtain ⟨w6, hw6⟩ : ∃ w6, (w5.setCell ⟨X, 3, none⟩ (.slice (some ⟨qg, 4, none⟩) 0 (qc - 4))).setCell ⟨X, 4, none⟩ (.bool false) = w6 := ⟨_, rfl⟩
    have h6 := (H5.out.set_ (i := 6) rfl 3 (.slice (some ⟨qg, 4, none⟩) 0 (qc - 4))).set_ (i := 6) rfl 4 (.bool false)
    rw [hw6] at h6 ⊢
    change Sep w6 (_ :: _ :: _ :: _ :: _ :: _ :: blkA X _ (chnV ci 1996 cu (.slice (some ⟨qg, 4, none⟩) 0 (qc - 4)) false true) :: _) at h6
    clear kX kK kC n1 n2 n3 n4 H5 hw6
    have kX := h6.at_ (i := 1) rfl
    have kK := h6.at_ (i := 2) rfl
    have H6 := Lib.hid h6
    unfold conV at kK
    clear h6
    refine (sm_state1 H6.out (i := 8) (j := 9) rfl rfl).mono ?_
    rintro e w' ⟨rfl, rfl⟩
    go_wp2_with fail
    refine (st_say_data w6).mono ?_
    rintro e w' ⟨rfl, rfl⟩
    go_wp2_with fail
    refine (sm_put (.inr (.inr (.inr ⟨rfl, rfl⟩))) H6.out (i := 8) (j := 9) rfl rfl).mono ?_
    rintro e w7 ⟨rfl, h7⟩
    clear kX kK H6
    have kX := h7.at_ (i := 1) rfl
    have HR := Lib.hid (reads_sep h7 (i := 7) rfl)
    have H7 := Lib.hid ((h7.front 3 rfl).front 3 rfl)
    clear h7
    go_wp2_with fail
    refine (nsay bdyF bdyF_ok.1 (some ⟨qg, 0, none⟩) qc HR.out kb (xs := xs) (by omega) H7.out).mono ?_
    rintro e w8 ⟨rfl, A8, c8, h8⟩
    rw [bdyF_ok.2] at h8
    clear kX HR H7
    have kX := h8.at_ (i := 3) rfl
    have kK := h8.at_ (i := 0) rfl
    have kC := h8.at_ (i := 6) rfl
    have H8 := Lib.hid (h8.drew.front 4 rfl)
    unfold chnV at kC
    clear h8
    go_wp2
    rw [rounds_succ]
    go_wp2
    rw [rounds_succ]
    go_wp2
    have HF := Lib.hid (np_fn H8.out (i1 := 4) (i2 := 1) (i3 := 5) (i4 := 6) rfl rfl rfl rfl)
    go_region_with (go_at_call 108; refine (del_one_n H8.out HF.out).mono ?_; rintro e w9 ⟨rfl, h9⟩; change Sep w9 (rowA _ 1 _ 0 [] :: blkA kb _ _ :: _) at h9; have kK9 := h9.at_ (i := 1) rfl; have kX9 := h9.at_ (i := 4) rfl; have H9 := Lib.hid h9; clear h9)
    all_goals
      go_wp2
      refine bodyPost_end (results_none rfl _ _ _) rfl ?_
      have h10 := H9.out.set_ (i := 1) rfl 3 (.slice (some ⟨og, 0, none⟩) 0 oc)
      exact ⟨rfl, A8, c8, _, (((h10.drop_ 3).drop_ 3).front 2 rfl).front 2 rfl⟩
end Go.Proofs.YtbgnggkgmeagkaaGreatDoor
namespace Go.Proofs.YtbgnggkgmeagkaaGreatDoor
open Go.RowKit Go.Shelf
set_option maxRecDepth 100000 in
set_option maxHeartbeats 4000000 in
theorem cn_send {w : World} {F : List Atom} {kb C S M MS X n c mc sc bc : Nat} {A BA : Option Addr} {inn part evs : Value} {xs : List UInt8} {iw un ci cu : Int} {began : Bool} (hn : n ≤ 1000)
    (h : Sep w (blkA kb 200 (conV C S M (.slice none 0 0) inn (.slice A n c) iw 2000 un began part evs) :: rowA 5 1 (.slice A n c) n (bs xs) :: mapA M (ent1 (.pointer (some ⟨X, 0, none⟩))) mc ::
      blkA X 313 (chnV ci 2000 cu (.slice none 0 0) false false) :: blkA S 254 (stmV MS 1) :: mapA MS (ent1 (.int .i64 2)) sc :: rowA 5 1 (.slice BA 4 bc) 4 (bs bodyL) :: F)) :
    Calls Tryz.prog 185 #[.pointer (some ⟨kb, 0, none⟩), .int .i64 1, .slice BA 4 bc, .bool true] w fun e w' => e = .returned .nilIface ∧ ∃ A' c' Q' OA oc, Sep w' (blkA kb 200 (conV C S M (.slice OA 0 oc) inn (.slice A' (n + 13) c') iw 1996 un began part evs) :: rowA 5 1 (.slice A' (n + 13) c') (n + 13) (bs (xs ++ bdyB)) :: rowA 3 1 (.slice OA 0 oc) 0 [] :: mapA M (ent1 (.pointer (some ⟨X, 0, none⟩))) mc ::
      blkA X 313 (chnV ci 1996 cu Q' false true) :: blkA S 254 (stmV MS 1) :: mapA MS (ent1 (.int .i64 4)) sc :: rowA 5 1 (.slice BA 4 bc) 4 (bs bodyL) :: F) := by
  have kK := h.at_ (i := 0) rfl
  have kC := h.at_ (i := 3) rfl
  have n1 := h.ne_ (i := 0) (i' := 3) rfl rfl (by decide)
  have n2 := Ne.symm n1
  have h1 := h.newBlk 23 #[.slice none 0 0, .slice BA 4 bc]
  have kC1 := h1.at_ (i := 4) rfl
  have hps : PartsAt (w.alloc (.cells #[.slice none 0 0, .slice BA 4 bc] 23)) 1 w.heap.size [⟨none, 0, 0, []⟩, ⟨BA, 4, bc, bs bodyL⟩] := by
    intro k hk
    match k, hk with
    | 0, _ => exact ⟨(h1.at_ (i := 0) rfl).1 0, Reads.none_, by simp⟩
    | 1, _ => exact ⟨(h1.at_ (i := 0) rfl).1 1, reads_sep h1 (i := 7) rfl, bs_ones _⟩
  have HC := Lib.hid (concatB_any _ _ _ hps (by simp [total]) (by simp))
  have H := Lib.hid h
  have H1 := Lib.hid h1
  unfold conV at kK
  unfold chnV at kC kC1
  clear h h1 hps
  go_enter Tryz.func185, Tryz.ntmps185
  go_wp2_with fail
  refine (cn_may_data H.out (i := 0) (i1 := 4) (j := 5) rfl rfl rfl).mono ?_
  rintro e w' ⟨rfl, rfl⟩
  go_wp2_with fail
  refine (nc_old H.out (i := 0) (j := 2) rfl rfl).mono ?_
  rintro e w' ⟨rfl, rfl⟩
  go_wp2_with fail
  refine (show Calls _ _ _ _ _ from HC.out).mono ?_
  rintro e w2 ⟨v, rfl, hown, hb2⟩
  change w2.ownsRow _ _ 1 v 4 (bs bodyL) at hown
  obtain ⟨QA, qc, rfl⟩ := own_slice hown
  have h2 := H1.out.newRow hb2 hown
  clear kK kC kC1 n1 n2 H HC H1 hown hb2
  have kK := h2.at_ (i := 2) rfl
  have kC := h2.at_ (i := 5) rfl
  have n1 := h2.ne_ (i := 2) (i' := 5) rfl rfl (by decide)
  have n2 := Ne.symm n1
  have H2 := Lib.hid h2
  unfold conV at kK
  unfold chnV at kC
  clear h2
  go_upto_region 10 with fail
  obtain ⟨w3, hw3⟩ : ∃ w3, ((w2.setCell ⟨X, 3, none⟩ (.slice QA 4 qc)).setCell ⟨X, 5, none⟩ (.bool true)).setCell ⟨X, 4, none⟩ (.bool true) = w3 := ⟨_, rfl⟩
  have h3 := ((H2.out.set_ (i := 5) rfl 3 (.slice QA 4 qc)).set_ (i := 5) rfl 5 (.bool true)).set_ (i := 5) rfl 4 (.bool true)
  rw [hw3] at h3 ⊢
  change Sep w3 (_ :: _ :: _ :: _ :: _ :: blkA X _ (chnV ci 2000 cu (.slice QA 4 qc) true true) :: _) at h3
  clear kK kC n1 n2 H2 hw3
  have kK := h3.at_ (i := 2) rfl
  have h4 := (h3.nilRow 3 1).newBlk 3 #[.int .i64 1]
  have H4 := Lib.hid h4
  unfold conV at kK
  clear h3 h4
  go_wp2_with (at_builtin; refine wpList_pushS rfl _ _ 58 3 rfl Tryz.underlying58 int_info rfl (by decide) (by decide) _ 0 [] H4.out (i := 1) rfl rfl _ _ (j := 0) rfl rfl (by intro u hu; simp at hu; subst hu; rfl) rfl (by decide) ?_; intro A5 c5 w5 h5 _; have kK5 := h5.at_ (i := 4) rfl; have H5 := Lib.hid h5; unfold conV at kK5; clear h5)
  have h6 := H5.out.set_ (i := 4) rfl 3 (.slice A5 1 c5)
  change Sep _ (_ :: rowA _ 1 (.slice A5 1 c5) 1 [.int .i64 1] :: _ :: _ :: blkA kb _ (conV C S M (.slice A5 1 c5) inn (.slice A n c) iw 2000 un began part evs) :: _) at h6
  have h7 := (((((((h6.drop_ 0).drop_ 2).front 1 rfl).front 5 rfl).front 5 rfl).front 3 rfl).front 5 rfl).front 5 rfl
  clear kK kK5 H4 H5 h6
  refine (np_one hn h7).mono ?_
  rintro e w8 ⟨rfl, A8, c8, Q8, h8⟩
  have H8 := Lib.hid h8
  clear h7 h8
  go_wp2
  go_ret
  exact ⟨rfl, A8, c8, Q8, A5, c5, H8.out.drop_ 5⟩
end Go.Proofs.YtbgnggkgmeagkaaGreatDoor
namespace Go.Proofs.YtbgnggkgmeagkaaGreatDoor
open Go.RowKit Go.Shelf
def rsB : List UInt8 := rhdB ++ bdyB
set_option maxRecDepth 100000 in
set_option maxHeartbeats 4000000 in
theorem ga_say {w w0 : World} {F : List Atom} {io g kb C S M MS X n c mc sc gg hh bc Li St CM JM : Nat} {A BA : Option Addr} {R log inn part evs : Value} {xs : List UInt8} {iw un ci cu last : Int} {began : Bool} (hn : n ≤ 900) (hP : Pow w0) (hio : F[io]? = some (oldA w0))
    (h : Sep w (blkA g 120 (gatV kb R Li St CM JM last log) :: blkA C 93 (coderV gg hh) :: tabA gg none 0 [] 4096 :: blkA kb 200 (conV C S M (.slice none 0 0) inn (.slice A n c) iw 2000 un began part evs) :: rowA 5 1 (.slice A n c) n (bs xs) :: mapA M (ent1 (.pointer (some ⟨X, 0, none⟩))) mc ::
      blkA X 313 (chnV ci 2000 cu (.slice none 0 0) false false) :: blkA S 254 (stmV MS 1) :: mapA MS (ent1 (.int .i64 2)) sc :: rowA 5 1 (.slice BA 4 bc) 4 (bs bodyL) :: F)) :
    Calls Tryz.prog 128 #[.pointer (some ⟨g, 0, none⟩), .int .i64 1, .agg (repV 200 (.slice none 0 0) (.slice BA 4 bc))] w fun e w' => e = .returned (.bool true) ∧ ∃ A' c' Q' OA oc, Sep w' (blkA g 120 (gatV kb R Li St CM JM last log) :: blkA kb 200 (conV C S M (.slice OA 0 oc) inn (.slice A' (n + 26) c') iw 1996 un began part evs) :: rowA 5 1 (.slice A' (n + 26) c') (n + 26) (bs (xs ++ rsB)) :: rowA 3 1 (.slice OA 0 oc) 0 [] :: mapA M (ent1 (.pointer (some ⟨X, 0, none⟩))) mc ::
      blkA X 313 (chnV ci 1996 cu Q' false true) :: blkA S 254 (stmV MS 1) :: mapA MS (ent1 (.int .i64 4)) sc :: rowA 5 1 (.slice BA 4 bc) 4 (bs bodyL) :: F) := by
  have h0 := h.newBlk 69 (repV 200 (.slice none 0 0) (.slice BA 4 bc))
  have HT := Lib.hid (ft_tell (bc := bc) (BA := BA) (io := io + 11) hP hio h0)
  unfold repV at HT
  clear h h0
  unfold repV
  go_enter Tryz.func128, Tryz.ntmps128
  go_wp2_with fail
  refine HT.out.mono ?_
  rintro e w1 ⟨LA, lc, rfl, h1⟩
  have kP := h1.at_ (i := 1) rfl
  have kg := h1.at_ (i := 2) rfl
  have H1 := Lib.hid (((((((((h1.front 10 rfl).front 10 rfl).front 10 rfl).front 10 rfl).front 10 rfl).front 10 rfl).front 10 rfl).front 10 rfl))
  unfold repV at kP
  unfold gatV at kg
  clear HT h1
  go_wp2_with fail
  refine (bare_no _).mono ?_
  rintro e w2 ⟨rfl, rfl⟩
  go_wp2_with fail
  refine (cn_answer (by omega) H1.out).mono ?_
  rintro e w3 ⟨rfl, A3, c3, h3⟩
  clear kP kg H1
  have kP := h3.at_ (i := 6) rfl
  have kg := h3.at_ (i := 7) rfl
  have H3 := Lib.hid (((((((h3.front 8 rfl).front 6 rfl).front 6 rfl).front 6 rfl).front 6 rfl).front 6 rfl).front 6 rfl).drew
  unfold repV at kP
  unfold gatV at kg
  have p2 := kP.1 2
  have g0 := kg.1 0
  clear h3
  go_wp2_with fail
  go_region_held3 (fun w' => w'.cell? ⟨g, 0, none⟩ = some (.pointer (some ⟨kb, 0, none⟩)) ∧ w'.cell? ⟨w.heap.size, 2, none⟩ = some (.slice BA 4 bc))
    (first | (with_reducible exact ⟨g0, p2⟩) | (with_reducible exact ⟨g4, p4⟩) | go_keep)
    (first
    | (go_at_call 185; refine (cn_send (by omega) H3.out).mono ?_; rintro e w4 ⟨rfl, A4, c4, Q4, OA, oc, h4⟩; have kP4 := h4.at_ (i := 8) rfl; have kg4 := h4.at_ (i := 9) rfl; unfold repV at kP4; unfold gatV at kg4; have p4 := kP4.1 2; have g4 := kg4.1 0; rw [show xs ++ rhdB ++ bdyB = xs ++ rsB from List.append_assoc _ _ _] at h4; have H4 := Lib.hid ((h4.front 9 rfl).drop_ 9); clear h4 g0 p2 H3 kP4 kg4))
  go_wp2
  go_ret
  exact ⟨rfl, A4, c4, Q4, OA, oc, H4.out⟩
end Go.Proofs.YtbgnggkgmeagkaaGreatDoor
