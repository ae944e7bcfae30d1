/-
  One route, at / for all hosts: it is checked. No condition.
  A gate is made, with one route. No condition.
  slices.IndexFunc and DeleteFunc at no number, at one that goes. No condition.
  A client lets go what waits: one piece of a body; nothing. Condition: one call, one that waits.
  Streams: the state of one, a state is put, one is opened. Condition: the stream is the first.
-/
import Derived.Test.YtbgnggkgmeagkaaGreatDoorMTopLines15
import Derived.Test.YtbgnggkgmeagkaaGreatDoorMTopLines18
import Derived.LoopN
import Derived.Lib.SliceRun
import Derived.Deep.QuietTactic
import Derived.Deep.RegionWith
import Derived.Maps.RangeRun
set_option linter.unusedSimpArgs false
set_option linter.unusedVariables false
namespace Go.Proofs.YtbgnggkgmeagkaaGreatDoor
open Go.RowKit
/-- The route lies there. -/
def RtAt (w : World) (g : Nat) : Prop := w.cell? ⟨g, 0, none⟩ = some (.string ⟨#[]⟩) ∧ w.cell? ⟨g, 1, none⟩ = some (.string ⟨#[47]⟩) ∧ w.cell? ⟨g, 2, none⟩ = some (.string ⟨#[97, 108, 108]⟩)
theorem RtAt.below {w w' : World} {g : Nat} (h : RtAt w g) (hb : Below w.heap.size w w') : RtAt w' g := ⟨cell_behind hb h.1, cell_behind hb h.2.1, cell_behind hb h.2.2⟩
set_option maxRecDepth 100000 in
set_option maxHeartbeats 1000000 in
theorem rt_index (A : Option Addr) (c : Nat) (f : Value) (w : World) :
    Calls Tryz.prog 209 #[.slice A 0 c, f] w fun e w' => e = .returned (.int .i64 (-1)) ∧ w = w' := by
  go_enter Tryz.func209, Tryz.ntmps209
  go_wp2
  refine wp_loop_rounds 1 ?_
  rw [rounds_succ]
  go_wp2
  go_ret
  exact ⟨rfl, rfl⟩
set_option maxRecDepth 100000 in
set_option maxHeartbeats 1000000 in
theorem rt_has (A : Option Addr) (c : Nat) (f : Value) (w : World) :
    Calls Tryz.prog 153 #[.slice A 0 c, f] w fun e w' => e = .returned (.bool false) ∧ w = w' := by
  go_enter Tryz.func153, Tryz.ntmps153
  go_wp2_with (go_at_call 209; refine (rt_index _ _ _ _).mono ?_; rintro e w' ⟨rfl, rfl⟩)
  go_ret
  exact ⟨rfl, rfl⟩
set_option maxRecDepth 100000 in
set_option maxHeartbeats 2000000 in
theorem rt_one (g c : Nat) (hc : 1 ≤ c) (w : World) (h : RtAt w g) :
    Calls Tryz.prog 99 #[.slice (some ⟨g, 0, none⟩) 1 c, .int .i64 0] w fun e w' => e = .returned .nilIface ∧ Below w.heap.size w w' := by
  obtain ⟨h0, h1, h2⟩ := h
  have hb := (Below.refl w.heap.size w).alloc (Nat.le_refl _) (.cells #[.string ⟨#[]⟩, .string ⟨#[47]⟩, .string ⟨#[97, 108, 108]⟩] 47)
  have HB := Lib.hid hb
  have HK := Lib.hid (Blk.new w 47 #[.string ⟨#[]⟩, .string ⟨#[47]⟩, .string ⟨#[97, 108, 108]⟩])
  have q1 := Tryz.strings_HasPrefix ⟨#[47]⟩ ⟨#[47]⟩ (w.alloc (.cells #[.string ⟨#[]⟩, .string ⟨#[47]⟩, .string ⟨#[97, 108, 108]⟩] 47))
  have HP := Lib.hid q1
  clear hb q1
  go_enter Tryz.func99, Tryz.ntmps99
  go_wp2_with fail
  refine HP.out.mono ?_
  rintro e w' ⟨rfl, rfl⟩
  rw [show Lib.hasPrefix [47] [47] = true from by decide]
  have k1 := HK.out.cell 1
  go_wp2_with fail
  refine (word_any [47] (by decide) _).mono ?_
  rintro e w1 ⟨rfl, hb1⟩
  rw [show isWord [47] = true from by decide]
  have HB1 := Lib.hid (HB.out.trans (hb1.mono HB.out.size))
  have hk1 := HK.out.below hb1 HK.out.lt
  have k2 := hk1.cell 2
  have HK1 := Lib.hid hk1
  clear hb1 hk1
  go_wp2_with fail
  refine (token_any [97, 108, 108] (by decide) _).mono ?_
  rintro e w2 ⟨rfl, hb2⟩
  rw [show isTok [97, 108, 108] = true from by decide]
  have HB2 := Lib.hid (HB1.out.trans (hb2.mono HB1.out.size))
  clear hb2
  go_wp2_with (go_at_call 153; refine (rt_has _ _ _ _).mono ?_; rintro e w' ⟨rfl, rfl⟩)
  go_ret
  exact ⟨rfl, HB2.out⟩
set_option maxRecDepth 100000 in
set_option maxHeartbeats 2000000 in
theorem rt_check (g c : Nat) (hc : 1 ≤ c) (w : World) (h : RtAt w g) :
    Calls Tryz.prog 49 #[.slice (some ⟨g, 0, none⟩) 1 c] w fun e w' => e = .returned .nilIface ∧ Below w.heap.size w w' := by
  have H := Lib.hid h
  clear h
  go_enter Tryz.func49, Tryz.ntmps49
  go_wp2
  refine wp_loop_rounds 2 ?_
  rw [rounds_succ]
  go_wp2_with fail
  refine (rt_one g c hc w H.out).mono ?_
  rintro e w1 ⟨rfl, hb⟩
  have HB := Lib.hid hb
  clear hb
  go_wp2
  rw [rounds_succ]
  go_wp2
  go_ret
  exact ⟨rfl, HB.out⟩
end Go.Proofs.YtbgnggkgmeagkaaGreatDoor
namespace Go.Proofs.YtbgnggkgmeagkaaGreatDoor
open Go.RowKit
theorem own_empty (w : World) (e : TypeId) (size : Nat) : (w.alloc (.cells #[] e)).ownsRow w.heap.size e size (.slice (some ⟨w.heap.size, 0, none⟩) 0 0) 0 [] :=
  ⟨by simp, .inr ⟨w.heap.size, 0, #[], rfl, Nat.le_refl _, heap_alloc_new w _, Nat.le_refl _, by simp, by simp, by simp⟩⟩
def rtV : List Value := [.string ⟨#[]⟩, .string ⟨#[47]⟩, .string ⟨#[97, 108, 108]⟩]
theorem rt_info : (Tryz.prog.info? 47).map (fun i => (i.zero, i.size, i.bytes)) = some (some (.agg #[.string ⟨#[]⟩, .string ⟨#[]⟩, .string ⟨#[]⟩]), 3, 48) := by kernel_rfl
theorem RtAt.reads {w : World} {g : Nat} (h : RtAt w g) : Reads w w.heap.size 3 (some ⟨g, 0, none⟩) 1 rtV := by
  refine ⟨rfl, fun _ => ⟨_, rfl, World.block_lt_of_cell? w _ h.1, fun j u hj => ?_⟩⟩
  match j, hj with
  | 0, hj => cases hj; exact h.1
  | 1, hj => cases hj; exact h.2.1
  | 2, hj => cases hj; exact h.2.2
  | j + 3, hj => simp [rtV] at hj
set_option maxRecDepth 100000 in
set_option maxHeartbeats 1000000 in
theorem rt_clone {w : World} {F : List Atom} (h : Sep w F) (g c : Nat) (hr : RtAt w g) :
    Calls Tryz.prog 52 #[.slice (some ⟨g, 0, none⟩) 1 c] w fun e w' => ∃ A' c', e = .returned (.slice A' 1 c') ∧ Sep w' (rowA 47 3 (.slice A' 1 c') 1 rtV :: F) ∧ Below w.heap.size w w' := by
  have ho := own_empty w 47 3
  have hb := (Below.refl w.heap.size w).alloc (Nat.le_refl _) (.cells #[] 47)
  have HO := Lib.hid ho
  have HB := Lib.hid hb
  have HR := Lib.hid (hr.below hb).reads
  have H := Lib.hid h
  clear ho hb hr h
  have q := Lib.run_eql_slice_nil (P := Tryz.prog) w 48 47 (some ⟨g, 0, none⟩) 1 c 0 0 Tryz.underlying48
  obtain ⟨i0, hi0, hz0, hz1, hz2⟩ := info_parts rt_info
  go_enter Tryz.func52, Tryz.ntmps52
  go_wp2_with (at_builtin; refine wpList_append_any _ rfl _ _ 48 rfl w.heap.size 47 i0 (.agg #[.string ⟨#[]⟩, .string ⟨#[]⟩, .string ⟨#[]⟩]) 3 48 Tryz.underlying48 hi0 hz0 hz1 hz2 rfl (by decide) _ 0 [] rfl HO.out _ (some ⟨g, 0, none⟩) 1 c rtV rfl HR.out (by intro u hu; simp [rtV] at hu; rcases hu with rfl | rfl | rfl <;> rfl) (by unfold maxLen; omega) (by omega) (by simp) ?_; intro v' w' hown' hg _; have hb2 := below_append HB.out HO.out hg (by simp))
  go_ret
  obtain ⟨A', c', rfl⟩ := own_slice hown'
  exact ⟨A', c', rfl, H.out.newRow hb2 hown', hb2⟩
theorem Sep.rt {w : World} {L : List Atom} {i g : Nat} (h : Sep w L) (hi : L[i]? = some (blkA g 47 rtV.toArray)) : RtAt w g := ⟨(h.blk hi).cell 0, (h.blk hi).cell 1, (h.blk hi).cell 2⟩
def gatV (K : Nat) (R : Value) (Li St CM JM : Nat) (last : Int) (log : Value) : Array Value :=
  #[.pointer (some ⟨K, 0, none⟩), R, .pointer (some ⟨Li, 0, none⟩), .pointer (some ⟨St, 0, none⟩), .map (some CM), .map (some JM), .int .i64 last, .int .i64 0, log]
set_option maxRecDepth 100000 in
set_option maxHeartbeats 2000000 in
theorem gat_new {w : World} {F : List Atom} (g c : Nat) (hc : 1 ≤ c) (h : Sep w (blkA g 47 rtV.toArray :: F)) :
    Calls Tryz.prog 13 #[.slice (some ⟨g, 0, none⟩) 1 c, .int .i64 10, .int .i64 10] w fun e w' => ∃ G K RA rc Li LM LM' St CM JM S MS M C gg hh A cc, e = .returned (.tuple #[.pointer (some ⟨G, 0, none⟩), .nilIface]) ∧
      Sep w' (blkA G 120 (gatV K (.slice RA 1 rc) Li St CM JM 0 (.slice none 0 0)) :: mapA JM #[] 0 :: mapA CM #[] 0 :: blkA St 203 #[.slice none 0 0] :: rowA 47 3 (.slice RA 1 rc) 1 rtV ::
        blkA K 200 (conV C S M (.slice none 0 0) (.slice none 0 0) (.slice A 9 cc) 2000 2000 0 false (.pointer none) (.slice none 0 0)) :: rowA 5 1 (.slice A 9 cc) 9 (bs setB) :: mapA M #[] 0 :: blkA S 254 #[.map (some MS), .int .i64 0] :: mapA MS #[] 0 :: blkA C 93 (coderV gg hh) :: tabA gg none 0 [] 4096 :: tabA hh none 0 [] 4096 ::
        blkA Li 193 #[.int .i64 10, .int .i64 10, .map (some LM), .map (some LM')] :: mapA LM' #[] 0 :: mapA LM #[] 0 :: blkA g 47 rtV.toArray :: F) := by
  have H := Lib.hid h
  clear h
  have q0 := fun w t => run_makeMap_plain (P := Tryz.prog) w t
  go_enter Tryz.func13, Tryz.ntmps13
  go_wp2_with fail
  refine (rt_check g c hc w (H.out.rt (i := 0) rfl)).mono ?_
  rintro e w1 ⟨rfl, hb1⟩
  have H1 := Lib.hid (H.out.below hb1)
  clear hb1
  go_wp2_with fail
  refine (li_new H1.out).mono ?_
  rintro e w2 ⟨Li, LM, LM', rfl, h2⟩
  have H2 := Lib.hid h2
  clear h2
  go_wp2_with fail
  refine (con_new H2.out).mono ?_
  rintro e w3 ⟨K, S, MS, M, C, gg, hh, A, cc, rfl, h3⟩
  have H3 := Lib.hid h3
  clear h3
  go_wp2_with fail
  refine (rt_clone H3.out g c (H3.out.rt (i := 11) rfl)).mono ?_
  rintro e w4 ⟨RA, rc, rfl, h4, -⟩
  have H4 := Lib.hid h4
  clear h4
  go_wp2_with fail
  refine (sto_new H4.out).mono ?_
  rintro e w5 ⟨St, rfl, h5⟩
  have h6 := h5.newMap.newMap.newBlk 120 (gatV K (.slice RA 1 rc) Li St w5.heap.size (w5.heap.size + 1) 0 (.slice none 0 0))
  simp only [World.size_alloc] at h6
  have H6 := Lib.hid h6
  clear h5 h6
  go_wp2
  go_ret2
  exact ⟨_, _, _, _, _, _, _, _, _, _, _, _, _, _, _, _, _, _, rfl, H6.out⟩
end Go.Proofs.YtbgnggkgmeagkaaGreatDoor
namespace Go.Proofs.YtbgnggkgmeagkaaGreatDoor
open Go.RowKit
set_option maxRecDepth 100000 in
set_option maxHeartbeats 1000000 in
theorem ix_none (A : Option Addr) (c : Nat) (f : Value) (w : World) :
    Calls Tryz.prog 160 #[.slice A 0 c, f] w fun e w' => e = .returned (.int .i64 (-1)) ∧ w = w' := by
  go_enter Tryz.func160, Tryz.ntmps160
  go_wp2
  refine wp_loop_rounds 1 ?_
  rw [rounds_succ]
  go_wp2
  go_ret
  exact ⟨rfl, rfl⟩
set_option maxRecDepth 100000 in
set_option maxHeartbeats 1000000 in
theorem del_none (A : Option Addr) (c : Nat) (f : Value) (w : World) :
    Calls Tryz.prog 108 #[.slice A 0 c, f] w fun e w' => e = .returned (.slice A 0 c) ∧ w = w' := by
  go_enter Tryz.func108, Tryz.ntmps108
  go_wp2_with (go_at_call 160; refine (ix_none _ _ _ _).mono ?_; rintro e w' ⟨rfl, rfl⟩)
  go_ret
  exact ⟨rfl, rfl⟩
/-- A row of one number, in memory. -/
theorem row_one {w : World} {L : List Atom} {i c : Nat} {A : Option Addr} {u : Value} {e : TypeId} (h : Sep w L) (hi : L[i]? = some (rowA e 1 (.slice A 1 c) 1 [u])) :
    ∃ g, A = some ⟨g, 0, none⟩ ∧ w.cell? ⟨g, 0, none⟩ = some u ∧ w.frozen? ⟨g, 0, none⟩ = false ∧ g < w.heap.size ∧ 1 ≤ c := by
  obtain ⟨h1, h2⟩ := h.row hi
  rcases h2 with ⟨_, h3⟩ | ⟨g, cap, cur, hv, _, hg, hc, _, hcs, ht⟩
  · cases h3
  · cases hv
    refine ⟨g, rfl, ?_, Blk.frozen (t := e) (cs := cur) hg 0, Blk.lt (t := e) (cs := cur) hg, hc⟩
    rw [Blk.cell (t := e) (cs := cur) hg 0]
    have h4 : (cur.toList.take (1 * 1))[0]? = some u := by rw [ht]; rfl
    simpa using h4
/-- It goes. -/
theorem row_gone {w : World} {F : List Atom} {c g : Nat} {u : Value} {e : TypeId} (h : Sep w (rowA e 1 (.slice (some ⟨g, 0, none⟩) 1 c) 1 [u] :: F)) (v : Value) :
    Sep (w.setCell ⟨g, 0, none⟩ v) (rowA e 1 (.slice (some ⟨g, 0, none⟩) 0 c) 0 [] :: F) := by
  obtain ⟨h1, h2⟩ := h.row (i := 0) rfl
  rcases h2 with ⟨_, h3⟩ | ⟨g', cap, cur, hv, _, hg, hc, hm, hcs, ht⟩
  · cases h3
  · cases hv
    have hB := Blk.set_ (t := e) (cs := cur) hg 0 v
    exact h.upd (i := 0) rfl (show Keep (fun k => some g = some k) _ _ from (Keep.refl (fun k => some g = some k) w).setCell (p := ⟨g, 0, none⟩) (.inl rfl) v) (show (w.setCell ⟨g, 0, none⟩ v).ownsRow 0 e 1 (.slice (some ⟨g, 0, none⟩) 0 c) 0 [] from ⟨by simp, .inr ⟨g, c, _, rfl, Nat.zero_le _, hB, Nat.zero_le _, hm, by simpa using hcs, by simp⟩⟩) (fun k hk => by injection hk with hk; subst hk; exact hB.lt) (fun k hk => .inl hk)
theorem zero_int (w : World) : (zeroValue 3).run Tryz.prog w = .ok (.int .i64 0) w := by kernel_rfl
set_option maxRecDepth 100000 in
set_option maxHeartbeats 1000000 in
theorem ix_one_c {w : World} {L : List Atom} {i X c : Nat} {A : Option Addr} {u : Int} (h : Sep w L) (hi : L[i]? = some (rowA 3 1 (.slice A 1 c) 1 [.int .i64 u]))
    (hf : Calls Tryz.prog 109 #[.int .i64 u, .pointer (some ⟨X, 0, none⟩)] w fun e w' => e = .returned (.bool true) ∧ w = w') :
    Calls Tryz.prog 160 #[.slice A 1 c, .func (.func 109) #[] #[.pointer (some ⟨X, 0, none⟩)]] w fun e w' => e = .returned (.int .i64 0) ∧ w = w' := by
  obtain ⟨g, rfl, h0, -, -, -⟩ := row_one h hi
  have HF := Lib.hid hf
  clear h hi hf
  go_enter Tryz.func160, Tryz.ntmps160
  go_wp2
  refine wp_loop_rounds 1 ?_
  rw [rounds_succ]
  go_wp2_with fail
  refine HF.out.mono ?_
  rintro e w' ⟨rfl, rfl⟩
  go_wp2
  go_ret
  exact ⟨rfl, rfl⟩
set_option maxRecDepth 100000 in
set_option maxHeartbeats 1000000 in
theorem del_one_c {w : World} {F : List Atom} {X c : Nat} {A : Option Addr} {u : Int} (h : Sep w (rowA 3 1 (.slice A 1 c) 1 [.int .i64 u] :: F))
    (hf : Calls Tryz.prog 109 #[.int .i64 u, .pointer (some ⟨X, 0, none⟩)] w fun e w' => e = .returned (.bool true) ∧ w = w') :
    Calls Tryz.prog 108 #[.slice A 1 c, .func (.func 109) #[] #[.pointer (some ⟨X, 0, none⟩)]] w fun e w' => e = .returned (.slice A 0 c) ∧ Sep w' (rowA 3 1 (.slice A 0 c) 0 [] :: F) := by
  have HI := Lib.hid (ix_one_c h (i := 0) rfl hf)
  obtain ⟨g, rfl, h0, h1, h2, h3⟩ := row_one h (i := 0) rfl
  have HE := Lib.hid (row_gone h (.int .i64 0))
  have qc : ∀ ty, (Builtin.clear_ #[58] ty #[.slice (some ⟨g, 0, none⟩) 1 c]).run Tryz.prog w = .ok (.tuple #[]) (w.setCell ⟨g, 0, none⟩ (.int .i64 0)) := fun ty =>
    Lib.run_clear_slice (P := Tryz.prog) w 58 3 ty (.int .i64 0) Tryz.underlying58 zero_int rfl rfl g 0 1 c (by decide) (by intro j hj; have : j = 0 := (by omega); subst this; rw [h0]; rfl) (by intro j hj; have : j = 0 := (by omega); subst this; exact h1)
  clear h hf
  go_enter Tryz.func108, Tryz.ntmps108
  go_wp2_with fail
  refine HI.out.mono ?_
  rintro e w' ⟨rfl, rfl⟩
  go_wp2
  refine wp_loop_rounds 1 ?_
  rw [rounds_succ]
  go_wp2
  go_ret
  exact ⟨rfl, HE.out⟩
set_option maxRecDepth 100000 in
set_option maxHeartbeats 1000000 in
theorem ix_one_n {w : World} {L : List Atom} {i X c : Nat} {A : Option Addr} {u : Int} (h : Sep w L) (hi : L[i]? = some (rowA 3 1 (.slice A 1 c) 1 [.int .i64 u]))
    (hf : Calls Tryz.prog 302 #[.int .i64 u, .pointer (some ⟨X, 0, none⟩)] w fun e w' => e = .returned (.bool true) ∧ w = w') :
    Calls Tryz.prog 160 #[.slice A 1 c, .func (.func 302) #[] #[.pointer (some ⟨X, 0, none⟩)]] w fun e w' => e = .returned (.int .i64 0) ∧ w = w' := by
  obtain ⟨g, rfl, h0, -, -, -⟩ := row_one h hi
  have HF := Lib.hid hf
  clear h hi hf
  go_enter Tryz.func160, Tryz.ntmps160
  go_wp2
  refine wp_loop_rounds 1 ?_
  rw [rounds_succ]
  go_wp2_with fail
  refine HF.out.mono ?_
  rintro e w' ⟨rfl, rfl⟩
  go_wp2
  go_ret
  exact ⟨rfl, rfl⟩
set_option maxRecDepth 100000 in
set_option maxHeartbeats 1000000 in
theorem del_one_n {w : World} {F : List Atom} {X c : Nat} {A : Option Addr} {u : Int} (h : Sep w (rowA 3 1 (.slice A 1 c) 1 [.int .i64 u] :: F))
    (hf : Calls Tryz.prog 302 #[.int .i64 u, .pointer (some ⟨X, 0, none⟩)] w fun e w' => e = .returned (.bool true) ∧ w = w') :
    Calls Tryz.prog 108 #[.slice A 1 c, .func (.func 302) #[] #[.pointer (some ⟨X, 0, none⟩)]] w fun e w' => e = .returned (.slice A 0 c) ∧ Sep w' (rowA 3 1 (.slice A 0 c) 0 [] :: F) := by
  have HI := Lib.hid (ix_one_n h (i := 0) rfl hf)
  obtain ⟨g, rfl, h0, h1, h2, h3⟩ := row_one h (i := 0) rfl
  have HE := Lib.hid (row_gone h (.int .i64 0))
  have qc : ∀ ty, (Builtin.clear_ #[58] ty #[.slice (some ⟨g, 0, none⟩) 1 c]).run Tryz.prog w = .ok (.tuple #[]) (w.setCell ⟨g, 0, none⟩ (.int .i64 0)) := fun ty =>
    Lib.run_clear_slice (P := Tryz.prog) w 58 3 ty (.int .i64 0) Tryz.underlying58 zero_int rfl rfl g 0 1 c (by decide) (by intro j hj; have : j = 0 := (by omega); subst this; rw [h0]; rfl) (by intro j hj; have : j = 0 := (by omega); subst this; exact h1)
  clear h hf
  go_enter Tryz.func108, Tryz.ntmps108
  go_wp2_with fail
  refine HI.out.mono ?_
  rintro e w' ⟨rfl, rfl⟩
  go_wp2
  refine wp_loop_rounds 1 ?_
  rw [rounds_succ]
  go_wp2
  go_ret
  exact ⟨rfl, HE.out⟩
end Go.Proofs.YtbgnggkgmeagkaaGreatDoor
namespace Go.Proofs.YtbgnggkgmeagkaaGreatDoor
open Go.RowKit
def callV (n : Int) (q : Value) (waits : Bool) (reply : Value) (got : Bool) (body : Value) (whole : Bool) : Array Value :=
  #[.int .i64 n, q, .bool waits, reply, .bool got, body, .bool whole, .bool false]
/-- One entry, at 1. -/
def ent1 (v : Value) : Array MapEntry := #[⟨.int .i64 1, v, 0⟩]
theorem Sep.look_call {w : World} {L : List Atom} {i M X c : Nat} (h : Sep w L) (hi : L[i]? = some (mapA M (ent1 (.pointer (some ⟨X, 0, none⟩))) c)) (ok : Bool) :
    (Instr.lookup 121 (.map (some M)) (.int .i64 1) ok).run Tryz.prog w = .ok (if ok then .tuple #[.pointer (some ⟨X, 0, none⟩), .bool true] else .pointer (some ⟨X, 0, none⟩)) w :=
  run_look (P := Tryz.prog) (t := 121) (k := .int .i64 1) Tryz.underlying121 Tryz.underlying3 rfl (h.map_ hi) (i := 0) (by rfl) ok
set_option maxRecDepth 100000 in
set_option maxHeartbeats 1000000 in
/-- The call of 1 waits no more. -/
theorem cp_fn {w : World} {L : List Atom} {i1 i2 i3 X K M Y c : Nat} {C : Nat} {ord inn out part : Value} {win last on : Int} {ends : Bool} {n : Int} {q reply body : Value} {got whole : Bool} (h : Sep w L) (h1 : L[i1]? = some (blkA X 52 #[.pointer (some ⟨K, 0, none⟩)]))
    (h2 : L[i2]? = some (blkA K 126 (cliV C M ord inn out win last part on ends))) (h3 : L[i3]? = some (mapA M (ent1 (.pointer (some ⟨Y, 0, none⟩))) c)) {i4 : Nat} (h4 : L[i4]? = some (blkA Y 130 (callV n q false reply got body whole))) :
    Calls Tryz.prog 109 #[.int .i64 1, .pointer (some ⟨X, 0, none⟩)] w fun e w' => e = .returned (.bool true) ∧ w = w' := by
  have k1 := h.at_ h1
  have k2 := h.at_ h2
  have k4 := h.at_ h4
  have q := h.look_call h3 false
  unfold cliV at k2
  unfold callV at k4
  clear h h1 h2 h3 h4
  go_enter Tryz.func109, Tryz.ntmps109
  go_wp2
  go_ret
  exact ⟨rfl, rfl⟩
/-- Take, by parts. -/
theorem fl_takeS {w : World} {L : List Atom} {i b o n k : Nat} {t : TypeId} {cs : Array Value} (h : Sep w L) (hi : L[i]? = some (blkA b t cs)) (hc : cs[o]? = some (.int .i64 (n : Int))) (hk : k ≤ n) (hn : n ≤ 2147483647) :
    Calls Tryz.prog 107 #[.pointer (some ⟨b, o, none⟩), .int .i64 (k : Int)] w fun e w' => e = .returned .nilIface ∧ Sep w' (L.set i (blkA b t (cs.setIfInBounds o (.int .i64 ((n - k : Nat) : Int))))) := by
  refine (fl_take b o n k hk hn w (((h.blk hi).cell o).trans hc) ((h.blk hi).frozen o)).mono ?_
  rintro e w' ⟨rfl, rfl⟩
  exact ⟨rfl, h.set_ hi o _⟩
theorem Sep.drewN {w : World} {L : List Atom} (h : Sep w L) (n : Nat) : Sep (w.drewN n) L := ⟨fun a ha => ⟨a.loc (fun _ => False) w (w.drewN n) ((Keep.refl _ w).drewN n) (fun _ _ h => h) (h.all a ha).2 (h.all a ha).1, (h.all a ha).2⟩, h.apart⟩
def dataF : Frm := ⟨0, 1, 1, [120]⟩
theorem dataF_ok : frmE dataF = 0 ∧ frmL dataF = [0, 0, 1, 0, 1, 0, 0, 0, 1, 120] := by decide
theorem min_one (w : World) : (Builtin.min_ #[3, 3, 3, 3] 3 #[.int .i64 1, .int .i64 1024, .int .i64 2000, .int .i64 2000]).run Tryz.prog w = .ok (.int .i64 1) w := by kernel_rfl
/-- Before and behind the piece. -/
def CpSt (bx kb C M X n c oc qc og qg : Nat) (A : Option Addr) (xs : List UInt8) (F : List Atom) (k : Nat) (wr : World) : Prop :=
  (k = 0 ∧ Sep wr (blkA bx 52 #[.pointer (some ⟨kb, 0, none⟩)] :: blkA kb 126 (cliV C M (.slice (some ⟨og, 0, none⟩) 1 oc) (.slice none 0 0) (.slice A n c) 2000 1 (.slice none 0 0) 0 false) :: rowA 5 1 (.slice A n c) n (bs xs) ::
      rowA 3 1 (.slice (some ⟨og, 0, none⟩) 1 oc) 1 [.int .i64 1] :: mapA M (ent1 (.pointer (some ⟨X, 0, none⟩))) 1 :: blkA X 130 (callV 2000 (.slice (some ⟨qg, 0, none⟩) 1 qc) true (.slice none 0 0) false (.slice none 0 0) false) :: rowA 5 1 (.slice (some ⟨qg, 0, none⟩) 1 qc) 1 (bs [120]) :: F)) ∨
  (k = 1 ∧ ∃ Q' A' c', Sep wr (blkA kb 126 (cliV C M (.slice (some ⟨og, 0, none⟩) 1 oc) (.slice none 0 0) (.slice A' (n + 10) c') 1999 1 (.slice none 0 0) 0 false) :: rowA 5 1 (.slice A' (n + 10) c') (n + 10) (bs (xs ++ [0, 0, 1, 0, 1, 0, 0, 0, 1, 120])) :: blkA bx 52 #[.pointer (some ⟨kb, 0, none⟩)] ::
      rowA 3 1 (.slice (some ⟨og, 0, none⟩) 1 oc) 1 [.int .i64 1] :: mapA M (ent1 (.pointer (some ⟨X, 0, none⟩))) 1 :: blkA X 130 (callV 1999 Q' false (.slice none 0 0) false (.slice none 0 0) false) :: rowA 5 1 (.slice (some ⟨qg, 0, none⟩) 1 qc) 1 (bs [120]) :: F))
set_option maxRecDepth 100000 in
set_option maxHeartbeats 4000000 in
theorem cp_one {w : World} {F : List Atom} {kb C M X n c oc qc : Nat} {A OA QA : Option Addr} {xs : List UInt8} (hn : n ≤ 10000) (h : Sep w (blkA kb 126 (cliV C M (.slice OA 1 oc) (.slice none 0 0) (.slice A n c) 2000 1 (.slice none 0 0) 0 false) :: rowA 5 1 (.slice A n c) n (bs xs) ::
      rowA 3 1 (.slice OA 1 oc) 1 [.int .i64 1] :: mapA M (ent1 (.pointer (some ⟨X, 0, none⟩))) 1 :: blkA X 130 (callV 2000 (.slice QA 1 qc) true (.slice none 0 0) false (.slice none 0 0) false) :: rowA 5 1 (.slice QA 1 qc) 1 (bs [120]) :: F)) :
    Calls Tryz.prog 58 #[.pointer (some ⟨kb, 0, none⟩)] w fun e w' => e = .returned (.tuple #[]) ∧ ∃ A' c' Q', Sep w' (blkA kb 126 (cliV C M (.slice OA 0 oc) (.slice none 0 0) (.slice A' (n + 10) c') 1999 1 (.slice none 0 0) 0 false) :: rowA 5 1 (.slice A' (n + 10) c') (n + 10) (bs (xs ++ [0, 0, 1, 0, 1, 0, 0, 0, 1, 120])) ::
      rowA 3 1 (.slice OA 0 oc) 0 [] :: mapA M (ent1 (.pointer (some ⟨X, 0, none⟩))) 1 :: blkA X 130 (callV 1999 Q' false (.slice none 0 0) false (.slice none 0 0) false) :: rowA 5 1 (.slice QA 1 qc) 1 (bs [120]) :: F) := by
  obtain ⟨og, rfl, o0, -, -, -⟩ := row_one h (i := 2) rfl
  obtain ⟨qg, rfl, -, -, -, hqc⟩ := row_one h (i := 5) rfl
  have hnKX := h.ne_ (i := 0) (i' := 4) rfl rfl (by decide)
  have hnXK := Ne.symm hnKX
  have h1 := h.newBlk 52 #[.pointer (some ⟨kb, 0, none⟩)]
  have kX := h1.at_ (i := 0) rfl
  have kK := h1.at_ (i := 1) rfl
  have k4 := h1.at_ (i := 5) rfl
  have o1 := cell_behind ((Below.refl w.heap.size w).alloc (Nat.le_refl _) (.cells #[.pointer (some ⟨kb, 0, none⟩)] 52)) o0
  have q := h1.look_call (i := 4) rfl false
  have H1 := Lib.hid h1
  have qm := min_one
  have HO := Lib.hid (show CpSt w.heap.size kb C M X n c oc qc og qg A xs F 0 _ from .inl ⟨rfl, h1⟩)
  unfold cliV at kK
  unfold callV at k4
  clear h h1 o0
  go_enter Tryz.func58, Tryz.ntmps58
  go_wp2
  refine wp_loop_rounds 2 ?_
  rw [rounds_succ]
  go_wp2
  clear kX kK k4 o1 q H1
  go_loopg [7] 1 (fun mm v7 wr => ∃ k, mm + k = 1 ∧ Hid (CpSt w.heap.size kb C M X n c oc qc og qg A xs F k wr))
  case atStart => exact ⟨0, rfl, HO⟩
  case round =>
    clear HO
    obtain ⟨k, hk, HS⟩ := hrel
    obtain ⟨rfl, h1⟩ | ⟨rfl, Q', A', c', h6⟩ := HS.out
    · have kX := h1.at_ (i := 0) rfl
      have kK := h1.at_ (i := 1) rfl
      have k4 := h1.at_ (i := 5) rfl
      have H1 := Lib.hid h1
      unfold cliV at kK
      unfold callV at k4
      clear h1 HS
      go_wp2
      go_quiet (first
        | (go_at_call 106; refine Calls.quiet_of_same (fl_left ⟨kb, 5, none⟩ 2000 _ ?_); exact kK.1 5)
        | (go_at_call 106; refine Calls.quiet_of_same (fl_left ⟨X, 0, none⟩ 2000 _ ?_); exact k4.1 0))
      have H2 := Lib.hid (H1.out.drewN nq)
      clear H1 kX kK k4 qm
      have kX := H2.out.at_ (i := 0) rfl
      have kK := H2.out.at_ (i := 1) rfl
      have k4 := H2.out.at_ (i := 5) rfl
      unfold cliV at kK
      unfold callV at k4
      go_wp2_with fail
      refine (fl_takeS H2.out (i := 1) (b := kb) (o := 5) (n := 2000) (k := 1) rfl rfl (by decide) (by decide)).mono ?_
      rintro e w3 ⟨rfl, h3⟩
      change Sep w3 (_ :: blkA kb _ (cliV C M (.slice (some ⟨og, 0, none⟩) 1 oc) (.slice none 0 0) (.slice A n c) 1999 1 (.slice none 0 0) 0 false) :: _) at h3
      have H3 := Lib.hid h3
      clear kX kK k4
      have kX := h3.at_ (i := 0) rfl
      have k4 := h3.at_ (i := 5) rfl
      unfold callV at k4
      clear h3 H2
      go_wp2_with fail
      refine (fl_takeS H3.out (i := 5) (b := X) (o := 0) (n := 2000) (k := 1) rfl rfl (by decide) (by decide)).mono ?_
      rintro e w4 ⟨rfl, h4⟩
      change Sep w4 (_ :: _ :: _ :: _ :: _ :: blkA X _ (callV 1999 (.slice (some ⟨qg, 0, none⟩) 1 qc) true (.slice none 0 0) false (.slice none 0 0) false) :: _) at h4
      have k4 := h4.at_ (i := 5) rfl
      have kK := h4.at_ (i := 1) rfl
      have kX := h4.at_ (i := 0) rfl
      have n1 : X ≠ w.heap.size := h4.ne_ (i := 5) (i' := 0) rfl rfl (by decide)
      have n2 : w.heap.size ≠ X := Ne.symm n1
      have H4 := Lib.hid h4
      unfold cliV at kK
      unfold callV at k4
      clear h4 H3
      by_cases hq1 : qc = 1
      · subst hq1
        go_wp2_with fail
        have h5 := (H4.out.set_ (i := 5) rfl 1 (.slice (some ⟨qg, 0, none⟩) 0 0)).set_ (i := 5) rfl 2 (.bool false)
        change Sep _ (_ :: _ :: _ :: _ :: _ :: blkA X _ (callV 1999 (.slice (some ⟨qg, 0, none⟩) 0 0) false (.slice none 0 0) false (.slice none 0 0) false) :: _) at h5
        have HR := Lib.hid (reads_sep h5 (i := 6) rfl)
        refine (csay dataF dataF_ok.1 (some ⟨qg, 0, none⟩) 1 HR.out kb (xs := xs) (by omega) ((h5.front 2 rfl).front 2 rfl)).mono ?_
        rintro e w6 ⟨rfl, A', c', h6⟩
        rw [dataF_ok.2] at h6
        have H6 := Lib.hid (show CpSt _ kb C M X n c oc 1 og qg A xs F 1 w6 from .inr ⟨rfl, _, A', c', h6⟩)
        clear h6 h5 H4 HR
        go_wp2
        go_roundg (gk - 1)
        case measure => omega
        case rel => exact ⟨1, by omega, H6.out⟩
      · go_wp2_with fail
        have h5 := (H4.out.set_ (i := 5) rfl 1 (.slice (some ⟨qg, 1, none⟩) 0 (qc - 1))).set_ (i := 5) rfl 2 (.bool false)
        change Sep _ (_ :: _ :: _ :: _ :: _ :: blkA X _ (callV 1999 (.slice (some ⟨qg, 1, none⟩) 0 (qc - 1)) false (.slice none 0 0) false (.slice none 0 0) false) :: _) at h5
        have HR := Lib.hid (reads_sep h5 (i := 6) rfl)
        refine (csay dataF dataF_ok.1 (some ⟨qg, 0, none⟩) qc HR.out kb (xs := xs) (by omega) ((h5.front 2 rfl).front 2 rfl)).mono ?_
        rintro e w6 ⟨rfl, A', c', h6⟩
        rw [dataF_ok.2] at h6
        have H6 := Lib.hid (show CpSt _ kb C M X n c oc qc og qg A xs F 1 w6 from .inr ⟨rfl, _, A', c', h6⟩)
        clear h6 h5 H4 HR
        go_wp2
        go_roundg (gk - 1)
        case measure => omega
        case rel => exact ⟨1, by omega, H6.out⟩
    · have k4 := h6.at_ (i := 5) rfl
      have kK := h6.at_ (i := 0) rfl
      have kX := h6.at_ (i := 2) rfl
      have H7 := Lib.hid (h6.drew.front 3 rfl)
      unfold cliV at kK
      unfold callV at k4
      clear h6 HS qm
      go_wp2
      rw [rounds_succ]
      go_wp2
      have HF := Lib.hid (cp_fn H7.out (i1 := 3) (i2 := 1) (i3 := 4) (i4 := 5) rfl rfl rfl rfl)
      go_region_with (go_at_call 108; refine (del_one_c H7.out HF.out).mono ?_; rintro e w8 ⟨rfl, h8⟩; change Sep w8 (rowA _ 1 _ 0 [] :: blkA kb _ _ :: _) at h8; have kK8 := h8.at_ (i := 1) rfl; have kX8 := h8.at_ (i := 3) rfl; have H8 := Lib.hid h8; unfold cliV at kK8; clear h8)
      all_goals
        go_wp2
        refine bodyPost_end (results_none rfl _ _ _) rfl ?_
        refine ⟨rfl, A', c', Q', ?_⟩
        have h9 := H8.out.set_ (i := 1) rfl 2 (.slice (some ⟨og, 0, none⟩) 0 oc)
        change Sep _ (rowA _ 1 _ 0 [] :: blkA kb _ (cliV C M (.slice (some ⟨og, 0, none⟩) 0 oc) (.slice none 0 0) (.slice A' (n + 10) c') 1999 1 (.slice none 0 0) 0 false) :: rowA _ 1 _ (n + 10) _ :: blkA _ _ _ :: mapA M _ 1 :: blkA X _ _ :: _ :: F) at h9
        exact ((h9.drop_ 3).front 2 rfl).front 2 rfl
end Go.Proofs.YtbgnggkgmeagkaaGreatDoor
namespace Go.Proofs.YtbgnggkgmeagkaaGreatDoor
open Go.RowKit
theorem range_empty {P : Program} {t kt et : TypeId} {w : World} {r clock : Nat} {es : Array MapEntry} (hm : P.underlying t = some (.map kt et)) (hb : w.heap[r]? = some (.map es clock)) :
    (Instr.range t (.map (some r))).run P w = .ok (.pointer (some ⟨w.heap.size, 0, none⟩)) (w.alloc (.mapIter (some r) clock #[] clock)) := by
  unfold Instr.range
  simp [run_underlying hm, MapKept.run_getObj_map hb, Result.andThen]
theorem next_empty {P : Program} {w : World} {r clock : Nat} (hb : w.heap[r]? = some (.map #[] clock)) (ty : TypeId) :
    (Instr.next (.pointer (some ⟨w.heap.size, 0, none⟩)) false ty).run P (w.alloc (.mapIter (some r) clock #[] clock)) = .ok (.tuple #[.bool false]) (w.alloc (.mapIter (some r) clock #[] clock)) := by
  have hlt : r < w.heap.size := (Array.getElem?_eq_some_iff.1 hb).1
  rcases run_next_at (P := P) (w.alloc (.mapIter (some r) clock #[] clock)) ty w.heap.size r clock clock #[] #[] clock (heap_alloc_new w _) ((Below.heap_alloc _ _ _ hlt).trans hb) (fun x hx => by cases hx) (Nat.le_refl _) with ⟨_, h⟩ | ⟨e, he, _⟩
  · exact h
  · simp [leftOf] at he
def stmV (MS : Nat) (last : Int) : Array Value := #[.map (some MS), .int .i64 last]
theorem Sep.look_state {w : World} {L : List Atom} {i M c : Nat} {st : Int} (h : Sep w L) (hi : L[i]? = some (mapA M (ent1 (.int .i64 st)) c)) (ok : Bool) :
    (Instr.lookup 252 (.map (some M)) (.int .i64 1) ok).run Tryz.prog w = .ok (if ok then .tuple #[.int .i64 st, .bool true] else .int .i64 st) w :=
  run_look (P := Tryz.prog) (t := 252) (k := .int .i64 1) Tryz.underlying252 Tryz.underlying3 rfl (h.map_ hi) (i := 0) (by rfl) ok
set_option maxRecDepth 100000 in
set_option maxHeartbeats 1000000 in
theorem sm_state0 {w : World} {L : List Atom} {i S MS : Nat} (h : Sep w L) (hi : L[i]? = some (blkA S 254 (stmV MS 0))) :
    Calls Tryz.prog 230 #[.pointer (some ⟨S, 0, none⟩), .int .i64 1] w fun e w' => e = .returned (.int .i64 0) ∧ w = w' := by
  have kK := h.at_ hi
  unfold stmV at kK
  clear h hi
  go_enter Tryz.func230, Tryz.ntmps230
  go_wp2
  go_ret
  exact ⟨rfl, rfl⟩
set_option maxRecDepth 100000 in
set_option maxHeartbeats 1000000 in
theorem sm_state1 {w : World} {L : List Atom} {i j S MS c : Nat} {st : Int} (h : Sep w L) (hi : L[i]? = some (blkA S 254 (stmV MS 1))) (hj : L[j]? = some (mapA MS (ent1 (.int .i64 st)) c)) :
    Calls Tryz.prog 230 #[.pointer (some ⟨S, 0, none⟩), .int .i64 1] w fun e w' => e = .returned (.int .i64 st) ∧ w = w' := by
  have kK := h.at_ hi
  have q := h.look_state hj true
  unfold stmV at kK
  clear h hi hj
  go_enter Tryz.func230, Tryz.ntmps230
  go_wp2
  go_ret
  exact ⟨rfl, rfl⟩
set_option maxRecDepth 100000 in
set_option maxHeartbeats 2000000 in
theorem sm_put {w : World} {L : List Atom} {i j S MS c : Nat} {st nx : Int} (hst : (st = 1 ∧ nx = 1) ∨ (st = 1 ∧ nx = 2) ∨ (st = 2 ∧ nx = 2) ∨ (st = 2 ∧ nx = 4)) (h : Sep w L) (hi : L[i]? = some (blkA S 254 (stmV MS 1))) (hj : L[j]? = some (mapA MS (ent1 (.int .i64 st)) c)) :
    Calls Tryz.prog 226 #[.pointer (some ⟨S, 0, none⟩), .int .i64 1, .int .i64 nx] w fun e w' => e = .returned (.tuple #[]) ∧ Sep w' (L.set j (mapA MS (ent1 (.int .i64 nx)) c)) := by
  have kK := h.at_ hi
  have HS := Lib.hid (sm_state1 h hi hj)
  have qm := run_upd_old (P := Tryz.prog) (t := 252) (k := .int .i64 1) Tryz.underlying252 Tryz.underlying3 rfl (h.map_ hj) (i := 0) (by rfl) (by rfl) (.int .i64 nx)
  have H := Lib.hid (h.putMap (c' := c) (es' := ent1 (.int .i64 nx)) hj)
  have e : (ent1 (.int .i64 st)).modify 0 (fun e => { e with key := .int .i64 1, val := .int .i64 nx }) = ent1 (.int .i64 nx) := rfl
  rw [e] at qm
  unfold stmV at kK
  clear h hi hj e
  rcases hst with ⟨rfl, rfl⟩ | ⟨rfl, rfl⟩ | ⟨rfl, rfl⟩ | ⟨rfl, rfl⟩
  all_goals
    go_enter Tryz.func226, Tryz.ntmps226
    go_wp2_with (go_at_call 230; refine HS.out.mono ?_; rintro e w' ⟨rfl, rfl⟩)
    go_wp2
    refine bodyPost_end (results_none rfl _ _ _) rfl ?_
    exact ⟨rfl, H.out⟩
set_option maxRecDepth 100000 in
set_option maxHeartbeats 2000000 in
theorem sm_many {w : World} {L : List Atom} {i j S MS : Nat} {last : Int} (h : Sep w L) (hi : L[i]? = some (blkA S 254 (stmV MS last))) (hj : L[j]? = some (mapA MS #[] 0)) :
    Calls Tryz.prog 324 #[.pointer (some ⟨S, 0, none⟩)] w fun e w' => e = .returned (.int .i64 0) ∧ Below w.heap.size w w' := by
  have kK := h.at_ hi
  have q1 := range_empty (P := Tryz.prog) Tryz.underlying252 (h.map_ hj)
  have q2 := next_empty (P := Tryz.prog) (h.map_ hj)
  unfold stmV at kK
  clear h hi hj
  go_enter Tryz.func324, Tryz.ntmps324
  go_wp2
  refine wp_loop_rounds 1 ?_
  rw [rounds_succ]
  go_wp2
  go_ret
  exact ⟨rfl, (Below.refl _ _).alloc (Nat.le_refl _) _⟩
set_option maxRecDepth 100000 in
set_option maxHeartbeats 2000000 in
theorem sm_open {w : World} {F : List Atom} {S MS : Nat} (h : Sep w (blkA S 254 (stmV MS 0) :: mapA MS #[] 0 :: F)) :
    Calls Tryz.prog 312 #[.pointer (some ⟨S, 0, none⟩), .int .i64 1] w fun e w' => e = .returned (.tuple #[.int .i64 0, .bool false]) ∧ Sep w' (blkA S 254 (stmV MS 1) :: mapA MS (ent1 (.int .i64 1)) 1 :: F) := by
  have kK := h.at_ (i := 0) rfl
  have H := Lib.hid h
  unfold stmV at kK
  clear h
  go_enter Tryz.func312, Tryz.ntmps312
  go_wp2_with fail
  have h2 := H.out.set_ (i := 0) rfl 1 (.int .i64 1)
  obtain ⟨w2, hw2⟩ : ∃ w2, w.setCell ⟨S, 1, none⟩ (.int .i64 1) = w2 := ⟨_, rfl⟩
  rw [hw2] at h2 ⊢
  change Sep w2 (blkA S _ (stmV MS 1) :: _) at h2
  refine (sm_many h2 (i := 0) (j := 1) rfl rfl).mono ?_
  rintro e w3 ⟨rfl, hb3⟩
  have h3 := h2.below hb3
  clear kK H hw2 h2 hb3
  have kK := h3.at_ (i := 0) rfl
  have qm : (Instr.mapUpdate 252 (.map (some MS)) (.int .i64 1) (.int .i64 1)).run Tryz.prog w3 = .ok () (putM w3 MS (ent1 (.int .i64 1)) 1) := run_upd_new (P := Tryz.prog) (t := 252) (k := .int .i64 1) Tryz.underlying252 Tryz.underlying3 rfl (h3.map_ (i := 1) rfl) (by rfl) (.int .i64 1)
  have H3 := Lib.hid (h3.putMap (i := 1) (c' := 1) (es' := ent1 (.int .i64 1)) rfl)
  unfold stmV at kK
  clear h3
  go_wp2
  go_ret2
  exact ⟨rfl, H3.out⟩
end Go.Proofs.YtbgnggkgmeagkaaGreatDoor
