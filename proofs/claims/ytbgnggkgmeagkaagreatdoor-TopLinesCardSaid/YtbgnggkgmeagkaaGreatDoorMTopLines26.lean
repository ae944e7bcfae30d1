/-
  The parts of a connection: an event is kept, a channel is made or found, a verdict is done. Condition: the stream is the first.
  A gate: a head came, a body came with the end. Condition: its first request.
  The route of a path, and what is left of it. No condition.
  A client has nothing to let go; no stream is open. No condition.
  A loop over a function that gives nothing. No condition.
  frame.Check at the frames of the closed run: head, data, settings, a window. No condition.
-/
import Derived.Test.YtbgnggkgmeagkaaGreatDoorMTopLines25
import Derived.Test.YtbgnggkgmeagkaaGreatDoorMTopLines14
import Derived.Deep.RegionHeld3
import Derived.Test.YtbgnggkgmeagkaaGreatDoorMTopLines09
import Derived.Test.YtbgnggkgmeagkaaGreatDoorMTopLinesChunk
import Derived.Test.YtbgnggkgmeagkaaGreatDoorMTopLines17
set_option linter.unusedSimpArgs false
set_option linter.unusedVariables false
namespace Go.Proofs.YtbgnggkgmeagkaaGreatDoor
open Go.RowKit
def evV (what st code : Int) (fl body : Value) (en : Bool) : Array Value := #[.int .i64 what, .int .i64 st, .int .i64 code, fl, body, .bool en]
theorem ev_info : (Tryz.prog.info? 215).map (fun i => (i.zero, i.size, i.bytes)) = some (some (.agg #[.int .i64 0, .int .i64 0, .int .i64 0, .slice none 0 0, .slice none 0 0, .bool false]), 6, 80) := by kernel_rfl
def chnV (i o : Int) (un : Int) (q : Value) (waits en : Bool) : Array Value := #[.int .i64 i, .int .i64 o, .int .i64 un, q, .bool waits, .bool en, .bool false]
set_option maxRecDepth 100000 in
set_option maxHeartbeats 2000000 in
theorem nc_event {w : World} {F : List Atom} {kb C S M : Nat} {ord inn out part : Value} {iw ow un : Int} {began : Bool} (wh st cd : Int) (fa ba : Option Addr) (fn fc bn bc : Nat) (en : Bool)
    (h : Sep w (blkA kb 200 (conV C S M ord inn out iw ow un began part (.slice none 0 0)) :: F)) :
    Calls Tryz.prog 218 #[.pointer (some ⟨kb, 0, none⟩), .agg (evV wh st cd (.slice fa fn fc) (.slice ba bn bc) en)] w fun e w' => e = .returned (.tuple #[]) ∧ ∃ A c, Sep w' (blkA kb 200 (conV C S M ord inn out iw ow un began part (.slice A 1 c)) ::
      rowA 215 6 (.slice A 1 c) 1 (evV wh st cd (.slice fa fn fc) (.slice ba bn bc) en).toList :: F) := by
  have h1 := (h.nilRow 215 6).newBlk 215 (evV wh st cd (.slice fa fn fc) (.slice ba bn bc) en)
  unfold evV at h1
  have kX := h1.at_ (i := 0) rfl
  have kK := h1.at_ (i := 2) rfl
  have h2 := h1.drew.newBlk 215 (evV wh st cd (.slice fa fn fc) (.slice ba bn bc) en)
  unfold evV at h2
  have kK2 := (h1.newBlk 215 #[.int .i64 wh, .int .i64 st, .int .i64 cd, .slice fa fn fc, .slice ba bn bc, .bool en]).at_ (i := 3) rfl
  have H2 := Lib.hid h2
  unfold conV at kK kK2
  clear h h1 h2
  unfold evV
  go_enter Tryz.func218, Tryz.ntmps218
  go_wp2_with fail
  go_region_law (refine step_pushS rfl _ _ 198 215 rfl Tryz.underlying198 ev_info rfl (by decide) (by decide) _ 0 [] H2.out (i := 2) rfl (by simp [Act.eval, Act.put]) _ _ (j := 0) rfl rfl (by intro u hu; simp at hu; rcases hu with rfl | rfl | rfl | rfl | rfl | rfl <;> rfl) (by simp [Act.eval, Act.put]) (by decide) ?_; intro A5 c5 w5 h5 _; have kK5 := h5.at_ (i := 3) rfl; have H5 := Lib.hid h5; unfold conV at kK5; clear h5)
  all_goals
    go_wp2
    refine bodyPost_end (results_none rfl _ _ _) rfl ?_
    have h6 := H5.out.set_ (i := 3) rfl 13 (.slice A5 1 c5)
    exact ⟨rfl, A5, c5, ((h6.drop_ 0).drop_ 0).front 1 rfl⟩
set_option maxRecDepth 100000 in
set_option maxHeartbeats 2000000 in
theorem nc_old {w : World} {L : List Atom} {i j kb C S M X c : Nat} {ord inn out part evs : Value} {iw ow un : Int} {began : Bool} (h : Sep w L) (hi : L[i]? = some (blkA kb 200 (conV C S M ord inn out iw ow un began part evs))) (hj : L[j]? = some (mapA M (ent1 (.pointer (some ⟨X, 0, none⟩))) c)) :
    Calls Tryz.prog 225 #[.pointer (some ⟨kb, 0, none⟩), .int .i64 1] w fun e w' => e = .returned (.pointer (some ⟨X, 0, none⟩)) ∧ w = w' := by
  have kK := h.at_ hi
  have q := run_look (P := Tryz.prog) (t := 196) (k := .int .i64 1) Tryz.underlying196 Tryz.underlying3 rfl (h.map_ hj) (i := 0) (by rfl) false
  unfold conV at kK
  clear h hi hj
  go_enter Tryz.func225, Tryz.ntmps225
  go_wp2
  go_ret
  exact ⟨rfl, rfl⟩
theorem upd_chan {w : World} {L : List Atom} {M X : Nat} {a b : Atom} (h : Sep w (a :: b :: mapA M #[] 0 :: L)) : (Instr.mapUpdate 196 (.map (some M)) (.int .i64 1) (.pointer (some ⟨X, 0, none⟩))).run Tryz.prog w = .ok () (putM w M (ent1 (.pointer (some ⟨X, 0, none⟩))) 1) :=
  run_upd_new (P := Tryz.prog) (t := 196) (k := .int .i64 1) Tryz.underlying196 Tryz.underlying3 rfl (h.map_ (i := 2) rfl) (by rfl) (.pointer (some ⟨X, 0, none⟩))
set_option maxRecDepth 100000 in
set_option maxHeartbeats 4000000 in
theorem nc_new {w : World} {F : List Atom} {kb C S M : Nat} {ord inn out part evs : Value} {iw ow un : Int} {began : Bool} (h : Sep w (blkA kb 200 (conV C S M ord inn out iw ow un began part evs) :: mapA M #[] 0 :: F)) :
    Calls Tryz.prog 225 #[.pointer (some ⟨kb, 0, none⟩), .int .i64 1] w fun e w' => ∃ X, e = .returned (.pointer (some ⟨X, 0, none⟩)) ∧ Sep w' (blkA X 313 (chnV 2000 2000 0 (.slice none 0 0) false false) :: blkA kb 200 (conV C S M ord inn out iw ow un began part evs) :: mapA M (ent1 (.pointer (some ⟨X, 0, none⟩))) 1 :: F) := by
  have kK := h.at_ (i := 0) rfl
  have q := run_look_no (P := Tryz.prog) (t := 196) (k := .int .i64 1) Tryz.underlying196 Tryz.underlying3 rfl (h.map_ (i := 1) rfl) (by rfl) (z := .pointer none) (by kernel_rfl) false
  have H := Lib.hid h
  unfold conV at kK
  clear h
  go_enter Tryz.func225, Tryz.ntmps225
  go_wp2_with fail
  go_region_held3 (fun w' => w'.cell? ⟨kb, 8, none⟩ = some (.int .i64 2000)) (first | exact kK.1 8 | exact kK5.1 8 | exact kK6.1 8 | exact kK7.1 8 | go_keep)
    (first
    | (go_at_call 101; refine (nwindow _).mono ?_; rintro e w6 ⟨rfl, hb6⟩; have h6 := H5.out.below hb6; have kK6 := h6.at_ (i := 0) rfl; have h7 := h6.newBlk 313 (chnV 2000 2000 0 (.slice none 0 0) false false); unfold chnV at h7; have kK7 := h7.at_ (i := 1) rfl; have qm := upd_chan (X := w6.heap.size) h7; have H7 := Lib.hid h7; unfold conV at kK7; clear h6 h7 hb6)
    | (go_at_call 101; refine (nwindow _).mono ?_; rintro e w5 ⟨rfl, hb5⟩; have h5 := H.out.drew.below hb5; have kK5 := h5.at_ (i := 0) rfl; have H5 := Lib.hid h5; clear h5 hb5))
  go_wp2
  go_ret
  exact ⟨_, rfl, H7.out.putMap (i := 2) rfl⟩
set_option maxRecDepth 100000 in
set_option maxHeartbeats 2000000 in
theorem nc_stop0 {w : World} {L : List Atom} {i j kb C S M : Nat} {ord inn out part evs : Value} {iw ow un : Int} {began : Bool} (h : Sep w L) (hi : L[i]? = some (blkA kb 200 (conV C S M ord inn out iw ow un began part evs))) (hj : L[j]? = some (mapA M #[] 0)) :
    Calls Tryz.prog 274 #[.pointer (some ⟨kb, 0, none⟩), .int .i64 1] w fun e w' => e = .returned (.bool false) ∧ w = w' := by
  have kK := h.at_ hi
  have q := run_look_no (P := Tryz.prog) (t := 196) (k := .int .i64 1) Tryz.underlying196 Tryz.underlying3 rfl (h.map_ hj) (by rfl) (z := .pointer none) (by kernel_rfl) false
  unfold conV at kK
  clear h hi hj
  go_enter Tryz.func274, Tryz.ntmps274
  go_wp2
  go_ret
  exact ⟨rfl, rfl⟩
set_option maxRecDepth 100000 in
set_option maxHeartbeats 2000000 in
theorem nc_stop1 {w : World} {L : List Atom} {i j k kb C S M X c : Nat} {ord inn out part evs q : Value} {iw ow un ci co cu : Int} {began wt en : Bool} (h : Sep w L) (hi : L[i]? = some (blkA kb 200 (conV C S M ord inn out iw ow un began part evs))) (hj : L[j]? = some (mapA M (ent1 (.pointer (some ⟨X, 0, none⟩))) c)) (hk : L[k]? = some (blkA X 313 (chnV ci co cu q wt en))) :
    Calls Tryz.prog 274 #[.pointer (some ⟨kb, 0, none⟩), .int .i64 1] w fun e w' => e = .returned (.bool false) ∧ w = w' := by
  have kK := h.at_ hi
  have kX := h.at_ hk
  have ql := run_look (P := Tryz.prog) (t := 196) (k := .int .i64 1) Tryz.underlying196 Tryz.underlying3 rfl (h.map_ hj) (i := 0) (by rfl) false
  unfold conV at kK
  unfold chnV at kX
  clear h hi hj hk
  go_enter Tryz.func274, Tryz.ntmps274
  go_wp2
  go_ret
  exact ⟨rfl, rfl⟩
set_option maxRecDepth 100000 in
set_option maxHeartbeats 2000000 in
theorem nc_verdict {w : World} {L : List Atom} {i i1 j kb C S M MS c : Nat} {ord inn out part evs : Value} {iw ow un : Int} {began : Bool} {st nx : Int} (hst : (st = 1 ∧ nx = 1) ∨ (st = 1 ∧ nx = 2) ∨ (st = 2 ∧ nx = 2) ∨ (st = 2 ∧ nx = 4)) (h : Sep w L) (hi : L[i]? = some (blkA kb 200 (conV C S M ord inn out iw ow un began part evs)))
    (hi1 : L[i1]? = some (blkA S 254 (stmV MS 1))) (hj : L[j]? = some (mapA MS (ent1 (.int .i64 st)) c)) :
    Calls Tryz.prog 276 #[.pointer (some ⟨kb, 0, none⟩), .int .i64 1, .int .i64 nx, .int .i64 0, .bool false] w fun e w' => e = .returned (.bool true) ∧ Sep w' (L.set j (mapA MS (ent1 (.int .i64 nx)) c)) := by
  have kK := h.at_ hi
  have HP := Lib.hid (sm_put hst h hi1 hj)
  unfold conV at kK
  clear h hi hj hi1 hst
  go_enter Tryz.func276, Tryz.ntmps276
  go_wp2_with (go_at_call 226; refine HP.out.mono ?_; rintro e w' ⟨rfl, h2⟩; have H2 := Lib.hid h2; clear h2)
  go_ret
  exact ⟨rfl, H2.out⟩
end Go.Proofs.YtbgnggkgmeagkaaGreatDoor
namespace Go.Proofs.YtbgnggkgmeagkaaGreatDoor
open Go.RowKit
def strE : Value := .string ⟨#[]⟩
def gclV (fl body : Value) (m p ho fa ba : Value) (at_ : Int) : Array Value := #[fl, body, .bool false, m, p, ho, fa, ba, .int .i64 at_]
def gclE (fl body : Value) : Array Value := gclV fl body (.string ⟨#[]⟩) (.string ⟨#[]⟩) (.string ⟨#[]⟩) (.slice none 0 0) (.slice none 0 0) 0
theorem upd_gcall {w : World} {L : List Atom} {M X : Nat} {a b c : Atom} (h : Sep w (a :: b :: c :: mapA M #[] 0 :: L)) : (Instr.mapUpdate 116 (.map (some M)) (.int .i64 1) (.pointer (some ⟨X, 0, none⟩))).run Tryz.prog w = .ok () (putM w M (ent1 (.pointer (some ⟨X, 0, none⟩))) 1) :=
  run_upd_new (P := Tryz.prog) (t := 116) (k := .int .i64 1) Tryz.underlying116 Tryz.underlying3 rfl (h.map_ (i := 3) rfl) (by rfl) (.pointer (some ⟨X, 0, none⟩))
set_option maxRecDepth 100000 in
set_option maxHeartbeats 4000000 in
theorem ge_asked {w : World} {F : List Atom} {g kb Li St CM JM fn fc : Nat} {FA : Option Addr} {R log : Value} {last : Int} (h : Sep w (blkA g 120 (gatV kb R Li St CM JM last log) :: mapA CM #[] 0 :: F)) :
    Calls Tryz.prog 112 #[.pointer (some ⟨g, 0, none⟩), .agg (evV 1 1 0 (.slice FA fn fc) (.slice none 0 0) false)] w fun e w' => e = .returned (.tuple #[]) ∧ ∃ Y, Sep w' (blkA Y 146 (gclE (.slice FA fn fc) (.slice none 0 0)) :: blkA g 120 (gatV kb R Li St CM JM last log) :: mapA CM (ent1 (.pointer (some ⟨Y, 0, none⟩))) 1 :: F) := by
  have h1 := h.newBlk 215 (evV 1 1 0 (.slice FA fn fc) (.slice none 0 0) false)
  unfold evV at h1
  have kX := h1.at_ (i := 0) rfl
  have kG := h1.at_ (i := 1) rfl
  have ql := run_look_no (P := Tryz.prog) (t := 116) (k := .int .i64 1) Tryz.underlying116 Tryz.underlying3 rfl (h1.drew.map_ (i := 2) rfl) (by rfl) (z := .pointer none) (by kernel_rfl) false
  have H1 := Lib.hid h1

  unfold gatV at kG
  clear h h1
  unfold evV
  go_enter Tryz.func112, Tryz.ntmps112
  go_wp2
  go_region
  obtain ⟨w2, hw2⟩ : ∃ w2, (w.alloc (.cells #[.int .i64 1, .int .i64 1, .int .i64 0, .slice FA fn fc, .slice none 0 0, .bool false] 215)).drew = w2 := ⟨_, rfl⟩
  have h2 := H1.out.drew
  rw [hw2] at h2 ⊢
  clear kX kG ql H1 hw2
  have kX := h2.at_ (i := 0) rfl
  have kG := h2.at_ (i := 1) rfl
  have h3 := (h2.newBlk 146 (gclE (.slice FA fn fc) (.slice none 0 0))).drew
  unfold gclE gclV at h3
  have qm := upd_gcall (X := w2.heap.size) h3
  have h4 := h3.putMap (i := 3) (c' := 1) (es' := ent1 (.pointer (some ⟨w2.heap.size, 0, none⟩))) rfl
  have kX4 := h4.at_ (i := 1) rfl
  have H4 := Lib.hid h4
  unfold gatV at kG
  clear h2 h3 h4
  go_wp2
  go_region
  go_wp2
  refine bodyPost_end (results_none rfl _ _ _) rfl ?_
  exact ⟨rfl, _, H4.out.drop_ 1⟩
end Go.Proofs.YtbgnggkgmeagkaaGreatDoor
namespace Go.Proofs.YtbgnggkgmeagkaaGreatDoor
open Go.RowKit
set_option maxRecDepth 100000 in
set_option maxHeartbeats 2000000 in
theorem rt_fits (w : World) :
    Calls Tryz.prog 316 #[.agg #[.string ⟨#[]⟩, .string ⟨#[47]⟩, .string ⟨#[97, 108, 108]⟩], .string ⟨#[104]⟩, .string ⟨#[47, 112]⟩] w fun e w' => e = .returned (.bool true) ∧ Below w.heap.size w w' := by
  have q1 := Tryz.strings_CutPrefix ⟨#[47, 112]⟩ ⟨#[47]⟩ (w.alloc (.cells #[.string ⟨#[]⟩, .string ⟨#[47]⟩, .string ⟨#[97, 108, 108]⟩] 47))
  have e1 : Lib.trimPrefix [47, 112] [47] = [112] := by decide
  have e2 : Lib.hasPrefix [47, 112] [47] = true := by decide
  have Q1 := Lib.hid q1
  have HB := Lib.hid ((Below.refl w.heap.size w).alloc (Nat.le_refl _) (.cells #[.string ⟨#[]⟩, .string ⟨#[47]⟩, .string ⟨#[97, 108, 108]⟩] 47))
  clear q1
  go_enter Tryz.func316, Tryz.ntmps316
  go_wp2_with (go_at_call 174; refine Q1.out.mono ?_; rintro e w' ⟨rfl, rfl⟩; simp only [e1, e2])
  go_wp2
  go_ret
  exact ⟨by kernel_rfl, HB.out⟩
theorem rt_row {w : World} {L : List Atom} {i c : Nat} {A : Option Addr} (h : Sep w L) (hi : L[i]? = some (rowA 47 3 (.slice A 1 c) 1 rtV)) : ∃ g, A = some ⟨g, 0, none⟩ ∧ RtAt w g ∧ 1 ≤ c := by
  obtain ⟨h1, h2⟩ := h.row hi
  rcases h2 with ⟨h3, h4⟩ | ⟨g, cap, cur, hv, _, hg, hc, _, hcs, ht⟩
  · cases h4
  · cases hv
    have hcell : ∀ j u, rtV[j]? = some u → w.cell? ⟨g, j, none⟩ = some u := by
      intro j u hj
      rw [Blk.cell (t := 47) (cs := cur) hg j]
      rw [← ht, List.getElem?_take] at hj
      split at hj
      · simpa using hj
      · cases hj
    exact ⟨g, rfl, ⟨hcell 0 _ rfl, hcell 1 _ rfl, hcell 2 _ rfl⟩, hc⟩
set_option maxRecDepth 100000 in
set_option maxHeartbeats 4000000 in
theorem rt_find (g c : Nat) (hc : 1 ≤ c) (w : World) (h : RtAt w g) :
    Calls Tryz.prog 287 #[.slice (some ⟨g, 0, none⟩) 1 c, .string ⟨#[104]⟩, .string ⟨#[47, 112]⟩] w fun e w' => e = .returned (.tuple #[.int .i64 0, .nilIface]) ∧ Below w.heap.size w w' := by
  have HC := Lib.hid (rt_check g c hc w h)
  have HR := Lib.hid h
  clear h
  go_enter Tryz.func287, Tryz.ntmps287
  go_wp2_with fail
  refine HC.out.mono ?_
  rintro e w1 ⟨rfl, hb1⟩
  obtain ⟨c0, c1, c2⟩ := HR.out.below hb1
  have hgl := World.block_lt_of_cell? w1 _ c0
  have HB := Lib.hid hb1
  clear hb1
  go_wp2
  refine wp_loop_rounds 2 ?_
  rw [rounds_succ]
  go_wp2
  obtain ⟨W, hW⟩ : ∃ W, w1.alloc (.cells #[.string ⟨#[]⟩, .string ⟨#[47]⟩, .string ⟨#[97, 108, 108]⟩] 47) = W := ⟨_, rfl⟩
  have kX := Blk.new w1 47 #[.string ⟨#[]⟩, .string ⟨#[47]⟩, .string ⟨#[97, 108, 108]⟩]
  have hbW : Below w.heap.size w W := by rw [← hW]; exact HB.out.trans (((Below.refl _ w1).alloc (Nat.le_refl _) _).mono HB.out.size)
  rw [hW] at kX ⊢
  have HKX := Lib.hid kX
  have HBW := Lib.hid hbW
  clear hW kX hbW c0 c1 c2 hgl
  refine quiet_in (fun w' => Below W.heap.size W w') (by kernel_rfl) (by kernel_rfl) ?_ fun hne => ?_
  · exact (Below.refl _ _).drew
  have z0 : ∀ x : WIn (fun w' => Below W.heap.size W w'), x.w.cell? ⟨w1.heap.size, 0, none⟩ = some (.string ⟨#[]⟩) := fun x => (HKX.out.below x.h HKX.out.lt).cell 0
  have z1 : ∀ x : WIn (fun w' => Below W.heap.size W w'), x.w.cell? ⟨w1.heap.size, 1, none⟩ = some (.string ⟨#[47]⟩) := fun x => (HKX.out.below x.h HKX.out.lt).cell 1
  have z2 : ∀ x : WIn (fun w' => Below W.heap.size W w'), x.w.cell? ⟨w1.heap.size, 2, none⟩ = some (.string ⟨#[97, 108, 108]⟩) := fun x => (HKX.out.below x.h HKX.out.lt).cell 2
  repeat (first | go_big_quiet_skip | (go_big_quiet_want; go_big_quiet_op; go_big_quiet_on))
  go_big_quiet_want
  go_big_quiet_op
  refine ⟨_, fun x => quiet_call (rt_fits x.w) (fun e w9 h9 => ⟨h9.1, x.h.trans (h9.2.mono x.h.size)⟩), ?_⟩
  go_big_quiet_on
  repeat (first | go_big_quiet_skip | (go_big_quiet_want; go_big_quiet_op; go_big_quiet_on))
  refine wpQuiet_nil ?_
  intro w9 hw9
  obtain ⟨x, rfl⟩ := hw9
  obtain ⟨w2, hb2⟩ := x
  simp only
  have HB2 := Lib.hid (HBW.out.trans (hb2.mono HBW.out.size))
  clear z0 z1 z2 hne hb2
  go_wp2
  rw [rounds_succ]
  go_wp2
  go_ret2
  exact ⟨rfl, HB2.out⟩
set_option maxRecDepth 100000 in
set_option maxHeartbeats 4000000 in
theorem rt_rest (g c : Nat) (hc : 1 ≤ c) (w : World) (h : RtAt w g) :
    Calls Tryz.prog 232 #[.slice (some ⟨g, 0, none⟩) 1 c, .string ⟨#[104]⟩, .string ⟨#[47, 112]⟩] w fun e w' => e = .returned (.tuple #[.string ⟨#[97, 108, 108]⟩, .string ⟨#[47, 112]⟩, .nilIface]) ∧ Below w.heap.size w w' := by
  have HF := Lib.hid (rt_find g c hc w h)
  have HR := Lib.hid h
  have e1 : Lib.trimPrefix [47, 112] [47] = [112] := by decide
  have e2 : Lib.hasPrefix [112] [47] = false := by decide
  have e3 : ByteArray.mk #[47] ++ ByteArray.mk #[112] = ByteArray.mk #[47, 112] := by kernel_rfl
  clear h
  go_enter Tryz.func232, Tryz.ntmps232
  go_wp2_with fail
  refine HF.out.mono ?_
  rintro e w1 ⟨rfl, hb1⟩
  obtain ⟨c0, c1, c2⟩ := HR.out.below hb1
  have hgl := World.block_lt_of_cell? w1 _ c0
  have HB := Lib.hid hb1
  have Q1 := Lib.hid (Tryz.strings_TrimPrefix ⟨#[47, 112]⟩ ⟨#[47]⟩ w1)
  have Q2 := Lib.hid (Tryz.strings_HasPrefix ⟨#[112]⟩ ⟨#[47]⟩ w1)
  clear hb1
  go_wp2_with (first
    | (go_at_call 288; refine Q1.out.mono ?_; rintro e w' ⟨rfl, rfl⟩; simp only [e1])
    | (go_at_call 98; refine Q2.out.mono ?_; rintro e w' ⟨rfl, rfl⟩; simp only [e2]))
  go_ret3
  exact ⟨rfl, HB.out⟩
end Go.Proofs.YtbgnggkgmeagkaaGreatDoor
namespace Go.Proofs.YtbgnggkgmeagkaaGreatDoor
open Go.RowKit
set_option maxRecDepth 100000 in
set_option maxHeartbeats 1000000 in
theorem cl_open {w : World} {L : List Atom} {i kb C M : Nat} {ord inn out part : Value} {win on : Int} {ends : Bool} (h : Sep w L) (hi : L[i]? = some (blkA kb 126 (cliV C M ord inn out win (-1) part on ends))) :
    Calls Tryz.prog 56 #[.pointer (some ⟨kb, 0, none⟩)] w fun e w' => e = .returned (.slice none 0 0) ∧ w = w' := by
  have kK := h.at_ hi
  unfold cliV at kK
  clear h hi
  go_enter Tryz.func56, Tryz.ntmps56
  go_wp2
  refine wp_loop_rounds 1 ?_
  rw [rounds_succ]
  go_wp2
  go_ret
  exact ⟨rfl, rfl⟩
set_option maxRecDepth 100000 in
set_option maxHeartbeats 4000000 in
theorem cp_none {w : World} {F : List Atom} {kb C M oc : Nat} {OA : Option Addr} {inn out part : Value} {win last on : Int} {ends : Bool} (h : Sep w (blkA kb 126 (cliV C M (.slice OA 0 oc) inn out win last part on ends) :: F)) :
    Calls Tryz.prog 58 #[.pointer (some ⟨kb, 0, none⟩)] w fun e w' => e = .returned (.tuple #[]) ∧ Sep w' (blkA kb 126 (cliV C M (.slice OA 0 oc) inn out win last part on ends) :: F) := by
  have h1 := h.newBlk 52 #[.pointer (some ⟨kb, 0, none⟩)]
  have kX := h1.at_ (i := 0) rfl
  have kK := h1.at_ (i := 1) rfl
  have n1 : kb ≠ w.heap.size := h1.ne_ (i := 1) (i' := 0) rfl rfl (by decide)
  have H1 := Lib.hid h1.drew
  unfold cliV at kK
  clear h h1
  go_enter Tryz.func58, Tryz.ntmps58
  go_wp2
  refine wp_loop_rounds 1 ?_
  rw [rounds_succ]
  go_wp2
  go_region_with (go_at_call 108; refine (del_none _ _ _ _).mono ?_; rintro e w8 ⟨rfl, rfl⟩)
  all_goals
    go_wp2
    refine bodyPost_end (results_none rfl _ _ _) rfl ?_
    refine ⟨rfl, ?_⟩
    have h9 := H1.out.set_ (i := 1) rfl 2 (.slice OA 0 oc)
    exact h9.drop_ 0
end Go.Proofs.YtbgnggkgmeagkaaGreatDoor
namespace Go.Proofs.YtbgnggkgmeagkaaGreatDoor
open Go.RowKit Go.Shelf
/-- The block of the loop's deferred calls: none. -/
def defA (D : Nat) : Atom := ⟨fun k => k = D, fun w => w.heap[D]? = some (.deferred (some [])), fun _ _ _ hk hS hl h => (hk.block D (hl D rfl) (hS D rfl)).trans h⟩
theorem Sep.newDef {w W : World} {L : List Atom} {D : Nat} (h : Sep w L) (hb : Below w.heap.size w W) (hD : w.heap.size ≤ D) (ho : W.heap[D]? = some (.deferred (some []))) : Sep W (defA D :: L) :=
  h.new hb ho (by rintro k rfl; exact ⟨hD, (Array.getElem?_eq_some_iff.1 ho).1⟩)
/-- The block is shut. -/
theorem Sep.shut {w : World} {L : List Atom} {D : Nat} (h : Sep w (defA D :: L)) (o : Obj) : Sep (w.putObj D o) L := by
  have hg := grownBy_putObj' w D o
  refine h.tail.kept (S := fun k => k = D) ⟨hg.os, hg.tape, hg.output, hg.size, fun k hk hn => hg.block k hk (fun e => hn (by cases e; rfl))⟩ ?_
  intro a ha k hk hkD
  exact (List.pairwise_cons.1 h.apart).1 a ha D rfl (by subst hkD; exact hk)
theorem Sep.def_ {w : World} {L : List Atom} {D i : Nat} (h : Sep w L) (hi : L[i]? = some (defA D)) : w.heap[D]? = some (.deferred (some [])) := h.get hi
theorem wpIn_rangeFunc_zero {F : Fence} {n : Nat} {P : Program} {g : Operand} {ps : Array Tmp} {assign body : Code} {Q : Exit → Act → World → Prop} {a : Act} {w : World}
    (hro : F.round = none) (h1 : 1 ≤ n) {gf : Nat} {lb : Array Value} (hg : a.eval g = .func (.func gf) #[] lb) (hFg : F.fn gf) (eg : ∀ args w, (callFunc gf args).run P w = .ok (.enter gf args) w)
    (hit : ∀ (l : Nat) (W : World), Below w.heap.size w W → CallsIn F (n - 1) P gf (#[.func (.yield l) #[] #[]] ++ lb) W fun e W' => (∃ v, e = .returned v) ∧ W = W')
    (hdone : ∀ (D : Nat) (W : World), w.heap.size ≤ D → Below w.heap.size w W → W.heap[D]? = some (.deferred (some [])) → Q .normal { a with defers := { target := .collected D, args := #[] } :: a.defers } W) :
    (Code.rangeFunc g ps assign body).wpIn F n P Q a w := by
  refine wpIn_rangeFunc ?_
  intro fn hfn
  rw [hro]
  obtain ⟨rec, hrec⟩ : ∃ rec : LoopState → Option Code → Loop, rec = fun st pe => { state := st, pending := pe, fn, tmps := a.tmps, params := ps, assign, body, defers := w.heap.size } := ⟨_, rfl⟩
  obtain ⟨W1, hW1⟩ : ∃ W1, (w.alloc (.deferred (some []))).alloc (.loop (rec .ready none)) = W1 := ⟨_, rfl⟩
  have hL1 : W1.heap[w.heap.size + 1]? = some (.loop (rec .ready none)) := by
    rw [← hW1]; have := World.alloc_heap_new (w.alloc (.deferred (some []))) (.loop (rec .ready none)); rwa [World.size_alloc] at this
  have hK1 : W1.heap[w.heap.size]? = some (.deferred (some [])) := by
    rw [← hW1]; exact (Below.heap_alloc _ _ _ (by simp)).trans (World.alloc_heap_new w _)
  have hb1 : Below w.heap.size w W1 := by
    rw [← hW1]; exact ((Below.refl _ w).alloc (Nat.le_refl _) _).alloc (by simp) _
  refine ⟨w.heap.size + 1, [{ target := .collected w.heap.size, args := #[] }], W1, { target := .fn (.func gf) lb, args := #[.func (.yield (w.heap.size + 1)) #[] #[]] }, W1, gf,
    #[.func (.yield (w.heap.size + 1)) #[] #[]] ++ lb, W1, ?_, ?_, ?_, ?_, fun _ => h1, ?_⟩
  · rw [← hW1, hrec]; exact run_enterLoop_outer _ _ _ _ _
  · simp only [resolve, hg]
    simp [go_sem]
  · intro f' hf'; simp [Target.leads] at hf'; subst hf'; exact hFg
  · simp [invoke, go_sem, eg]
  · refine (hit _ W1 hb1).mono ?_
    rintro e W2 ⟨⟨v, rfl⟩, rfl⟩
    refine ⟨none, _, by have := run_endLoop (P := P) hL1 (by rw [hrec]; simp); rw [hrec] at this; exact this, hdone _ _ (Nat.le_refl _) ?_ ((World.putObj_heap_other (by omega)).trans hK1)⟩
    exact hb1.grown (grownBy_putObj' _ _ _) hb1.size (fun k e => by cases e; exact Nat.le_succ _)
end Go.Proofs.YtbgnggkgmeagkaaGreatDoor
namespace Go.Proofs.YtbgnggkgmeagkaaGreatDoor
open Go.RowKit Go.Shelf
theorem results_int1 {P : Program} {fn : Func} {p : Tmp} {ty : TypeId} {k : IntKind} (h : fn.results = #[.cell p ty]) (tmps : Array Value) (w : World) (g : Nat) (v : Value)
    (hp : tmps.getD p undef = .pointer (some ⟨g, 0, none⟩)) (hg : w.cell? ⟨g, 0, none⟩ = some v) (hu : P.underlying ty = some (.int k)) :
    (results fn tmps).run P w = .ok v w := by
  have hp' : tmps[p]?.getD undef = .pointer (some ⟨g, 0, none⟩) := by simpa using hp
  simp [results, h, hp', asAddr, loadVar, isAgg, run_underlying hu, hg, go_sem]
theorem chk_memC (w : World) (K F S : Int) (A : Option Addr) (n c : Nat) (z : Int) : Below w.heap.size w ((w.alloc (.cells #[.int .i64 K, .int .i64 F, .int .i64 S, .slice A n c] 134)).alloc (.cells #[.int .i64 z] 3)) ∧
    Blk ((w.alloc (.cells #[.int .i64 K, .int .i64 F, .int .i64 S, .slice A n c] 134)).alloc (.cells #[.int .i64 z] 3)) w.heap.size 134 #[.int .i64 K, .int .i64 F, .int .i64 S, .slice A n c] ∧
    Blk ((w.alloc (.cells #[.int .i64 K, .int .i64 F, .int .i64 S, .slice A n c] 134)).alloc (.cells #[.int .i64 z] 3)) (w.heap.size + 1) 3 #[.int .i64 z] := by
  refine ⟨((Below.refl w.heap.size w).alloc (Nat.le_refl _) _).alloc (by simp) _, (Blk.new w _ _).alloc _, ?_⟩
  have := Blk.new (w.alloc (.cells #[.int .i64 K, .int .i64 F, .int .i64 S, .slice A n c] 134)) 3 #[.int .i64 z]
  rwa [World.size_alloc] at this
set_option maxRecDepth 100000 in
set_option maxHeartbeats 2000000 in
theorem sizes_C (K F S : Int) (A : Option Addr) (n c : Nat) (hK : K = 0 ∨ K = 1 ∨ (K = 4 ∧ n = 0) ∨ (K = 7 ∧ n = 4)) (w : World) :
    Calls Tryz.prog 272 #[.agg #[.int .i64 K, .int .i64 F, .int .i64 S, .slice A n c]] w fun e w' => e = .returned (.bool true) ∧ Below w.heap.size w w' := by
  rcases hK with rfl | rfl | ⟨rfl, rfl⟩ | ⟨rfl, rfl⟩
  all_goals
    go_enter Tryz.func272, Tryz.ntmps272
    go_wp2
    go_ret
    exact ⟨rfl, (Below.refl _ _).alloc (Nat.le_refl _) _⟩
set_option maxRecDepth 100000 in
set_option maxHeartbeats 2000000 in
theorem chk_str (K F : Int) (A : Option Addr) (n c : Nat) (hK : K = 0 ∨ K = 1) (w : World) :
    Calls Tryz.prog 213 #[.agg #[.int .i64 K, .int .i64 F, .int .i64 1, .slice A n c]] w fun e w' => e = .returned (.int .i64 0) ∧ Below w.heap.size w w' := by
  obtain ⟨hb0, hX, hY⟩ := chk_memC w K F 1 A n c 0
  have HZ := Lib.hid (sizes_C K F 1 A n c (by rcases hK with h | h; exact .inl h; exact .inr (.inl h)))
  have HB0 := Lib.hid hb0
  have HX := Lib.hid hX
  have HY0 := Lib.hid hY
  clear hb0 hX hY
  rcases hK with rfl | rfl
  all_goals
    go_enter Tryz.func213, Tryz.ntmps213
    go_wp2_with fail
    refine (HZ.out _).mono ?_
    rintro e w1 ⟨rfl, hb1⟩
    have x1 := HX.out.below hb1 HX.out.lt
    have y1 := HY0.out.below hb1 HY0.out.lt
    have x0 := x1.cell 0
    have x3 := x1.cell 3
    have y0 := y1.cell 0
    have yf := y1.frozen 0
    have yl := y1.lt
    have HB := Lib.hid (HB0.out.trans (hb1.mono HB0.out.size))
    have HY := Lib.hid (y1.set_ 0 (.int .i64 0))
    clear x1 y1 hb1
    go_wp2
    refine bodyPost_ret (results_int1 rfl _ _ (w.heap.size + 1) (.int .i64 0) rfl (HY.out.cell 0) Tryz.underlying3) rfl ?_
    exact ⟨rfl, HB.out.setCell (p := ⟨w.heap.size + 1, 0, none⟩) (Nat.le_succ _) _⟩
set_option maxRecDepth 100000 in
set_option maxHeartbeats 2000000 in
theorem word4 (A : Option Addr) (n cp : Nat) (hn : n = 4) (w : World) (hr : Reads w w.heap.size 1 A 4 (bs [0, 0, 0, 4])) :
    Calls Tryz.prog 219 #[.slice A n cp] w fun e w' => e = .returned (.int .i64 4) ∧ Below w.heap.size w w' := by
  subst hn
  obtain ⟨bb, off, rfl, hb, hc⟩ := hr.form (by omega)
  have e0 : w.cell? ⟨bb, off, none⟩ = some (.int .u8 0) := hc 0 _ rfl
  have e1 : w.cell? ⟨bb, off + 1, none⟩ = some (.int .u8 0) := hc 1 _ rfl
  have e2 : w.cell? ⟨bb, off + 2, none⟩ = some (.int .u8 0) := hc 2 _ rfl
  have e3 : w.cell? ⟨bb, off + 3, none⟩ = some (.int .u8 4) := hc 3 _ rfl
  clear hc hr
  go_enter Tryz.func219, Tryz.ntmps219
  go_upto_region 1 with fail
  go_quiet (fail)
  go_wp2
  go_ret
  exact ⟨rfl, below_dN (Below.refl _ _) _⟩
set_option maxRecDepth 100000 in
set_option maxHeartbeats 2000000 in
theorem chk_wide (F : Int) (A : Option Addr) (c : Nat) (w : World) (hr : Reads w w.heap.size 1 A 4 (bs [0, 0, 0, 4])) :
    Calls Tryz.prog 213 #[.agg #[.int .i64 7, .int .i64 F, .int .i64 0, .slice A 4 c]] w fun e w' => e = .returned (.int .i64 0) ∧ Below w.heap.size w w' := by
  obtain ⟨hb0, hX, hY⟩ := chk_memC w 7 F 0 A 4 c 0
  have HZ := Lib.hid (sizes_C 7 F 0 A 4 c (.inr (.inr (.inr ⟨rfl, rfl⟩))))
  have HB0 := Lib.hid hb0
  have HX := Lib.hid hX
  have HY0 := Lib.hid hY
  have HR := Lib.hid hr
  clear hb0 hX hY hr
  go_enter Tryz.func213, Tryz.ntmps213
  go_wp2_with fail
  refine (HZ.out _).mono ?_
  rintro e w1 ⟨rfl, hb1⟩
  have x1 := HX.out.below hb1 HX.out.lt
  have y1 := HY0.out.below hb1 HY0.out.lt
  have x0 := x1.cell 0
  have x3 := x1.cell 3
  have HX1 := Lib.hid x1
  have HY1 := Lib.hid y1
  have hB1 := HB0.out.trans (hb1.mono HB0.out.size)
  have HR1 := Lib.hid ((HR.out.below hB1).more hB1.size)
  have HB1 := Lib.hid hB1
  clear x1 y1 hb1 hB1
  go_wp2_with fail
  refine (word4 A 4 c rfl _ HR1.out).mono ?_
  rintro e w2 ⟨rfl, hb2⟩
  have x1 := HX1.out.below hb2 HX1.out.lt
  have y1 := HY1.out.below hb2 HY1.out.lt
  have hB2 := HB1.out.trans (hb2.mono HB1.out.size)
  have HR2 := Lib.hid ((HR.out.below hB2).more hB2.size)
  have HX2 := Lib.hid x1
  have HY2 := Lib.hid y1
  have HB2 := Lib.hid hB2
  clear x0 x3
  have x0 := x1.cell 0
  have x3 := x1.cell 3
  clear x1 y1 hb2 hB2
  go_wp2_with fail
  refine (word4 A 4 c rfl _ HR2.out).mono ?_
  rintro e w3 ⟨rfl, hb3⟩
  have x1 := HX2.out.below hb3 HX2.out.lt
  have y1 := HY2.out.below hb3 HY2.out.lt
  have hB3 := HB2.out.trans (hb3.mono HB2.out.size)
  clear x0 x3
  have x0 := x1.cell 0
  have x3 := x1.cell 3
  have y0 := y1.cell 0
  have yf := y1.frozen 0
  have yl := y1.lt
  have HB := Lib.hid hB3
  have HY := Lib.hid (y1.set_ 0 (.int .i64 0))
  clear x1 y1 hb3 hB3
  go_wp2
  refine bodyPost_ret (results_int1 rfl _ _ (w.heap.size + 1) (.int .i64 0) rfl (HY.out.cell 0) Tryz.underlying3) rfl ?_
  exact ⟨rfl, HB.out.setCell (p := ⟨w.heap.size + 1, 0, none⟩) (Nat.le_succ _) _⟩
theorem chunk6_newC (F : Fence) (n : Nat) (h81 : F.fn 105) (hro : F.round = none) (A : Option Addr) (len cap : Nat) (w : World) :
    CallsIn F n Tryz.prog 105 #[.slice A len cap, .int .i64 6] w fun e w' => e = .returned (.func (.func 159) #[] #[.pointer (some ⟨w.heap.size, 0, none⟩), .pointer (some ⟨w.heap.size + 1, 0, none⟩)]) ∧
      w' = (w.alloc (.cells #[.slice A len cap] 23)).alloc (.cells #[.int .i64 6] 3) := by
  refine callsIn_of_wp Tryz.func105 rfl h81 ?_ hro
  simp only [Tryz.ntmps105, List.size_toArray, List.length_cons, List.length_nil, Nat.reduceAdd, Nat.reduceSub, Array.replicate_succ, Array.replicate_zero, List.push_toArray, List.append_toArray, List.nil_append, List.cons_append]
  gi_wp2
  go_ret
  exact ⟨rfl, rfl⟩
/-- The iterator over nothing. -/
theorem zero_it {w1 W : World} {A : Option Addr} {cap l : Nat} (hb : Below (w1.heap.size + 2) ((w1.alloc (.cells #[.slice A 0 cap] 23)).alloc (.cells #[.int .i64 6] 3)) W) (n : Nat) :
    CallsIn Fence.wide n Tryz.prog 159 (#[.func (.yield l) #[] #[]] ++ #[.pointer (some ⟨w1.heap.size, 0, none⟩), .pointer (some ⟨w1.heap.size + 1, 0, none⟩)]) W fun e W' => (∃ v, e = .returned v) ∧ W = W' := by
  refine (chunk_nil_in Fence.wide n trivial rfl l w1.heap.size (w1.heap.size + 1) A cap (fun W' => W = W') W ?_ rfl).mono ?_
  · refine (hb.cell (p := ⟨w1.heap.size, 0, none⟩) (by show w1.heap.size < w1.heap.size + 2; omega)).trans ?_
    exact ((Blk.new w1 _ _).alloc _).cell 0
  · rintro e W' ⟨h1, h2⟩
    exact ⟨h1, h2⟩
set_option maxRecDepth 100000 in
set_option maxHeartbeats 4000000 in
theorem chk_set (F : Int) (A : Option Addr) (c : Nat) (w : World) :
    Calls Tryz.prog 213 #[.agg #[.int .i64 4, .int .i64 F, .int .i64 0, .slice A 0 c]] w fun e w' => e = .returned (.int .i64 0) ∧ Below w.heap.size w w' := by
  obtain ⟨hb0, hX, hY⟩ := chk_memC w 4 F 0 A 0 c 0
  have HZ := Lib.hid (sizes_C 4 F 0 A 0 c (.inr (.inr (.inl ⟨rfl, rfl⟩))))
  have HB0 := Lib.hid hb0
  have HX := Lib.hid hX
  have HY0 := Lib.hid hY
  clear hb0 hX hY
  refine (callsIn_wide (n := 7)).1 ?_
  refine callsIn_of_wp_marks Tryz.func213 rfl trivial ?_ rfl
  simp only [Tryz.ntmps213, List.size_toArray, List.length_cons, List.length_nil, Nat.reduceAdd, Nat.reduceSub, Array.replicate_succ, Array.replicate_zero, List.push_toArray, List.append_toArray, List.nil_append, List.cons_append]
  gi_wp2_with (first
    | (refine ⟨trivial, ?_⟩; gi_at_call 272; refine (callsIn_wide.2 (HZ.out _)).mono ?_; rintro e w1 ⟨rfl, hb1⟩; have x1 := HX.out.below hb1 HX.out.lt; have y1 := HY0.out.below hb1 HY0.out.lt; have x0 := x1.cell 0; have x3 := x1.cell 3; have HY1 := Lib.hid y1; have HB1 := Lib.hid (HB0.out.trans (hb1.mono HB0.out.size)); clear x1 y1 hb1)
    | (refine ⟨trivial, ?_⟩; gi_at_call 105; refine (chunk6_newC Fence.wide _ trivial rfl _ _ _ _).mono ?_; rintro e w' ⟨rfl, rfl⟩)
    | (refine ⟨trivial, ?_⟩))
  refine wpIn_rangeFunc_zero rfl (by decide) (gf := 159) (lb := #[.pointer (some ⟨w1.heap.size, 0, none⟩), .pointer (some ⟨w1.heap.size + 1, 0, none⟩)]) rfl trivial (enters_of Tryz.func159 (by kernel_rfl) rfl) (fun l W hW => zero_it (by simpa using hW) _) ?_
  intro D W hD hW hK
  have hs2 : w1.heap.size + 2 ≤ D := by simpa using hD
  have hbW : Below w1.heap.size w1 W := (((Below.refl _ w1).alloc (Nat.le_refl _) _).alloc (by simp) _).trans (hW.mono (by simp; omega))
  have hYW := HY1.out.below hbW HY1.out.lt
  have y0 := hYW.cell 0
  have yf := hYW.frozen 0
  have yl := hYW.lt
  have HYW := Lib.hid (hYW.set_ 0 (.int .i64 0))
  have HBW := Lib.hid (HB1.out.trans (hbW.mono HB1.out.size))
  have hDn : D ≠ w.heap.size + 1 := by have := HY1.out.lt; omega
  have HX : Hid ((W.setCell ⟨w.heap.size + 1, 0, none⟩ (.int .i64 0)).heap[D]? = some (.deferred (some []))) := (Below.heap_setCell W ⟨w.heap.size + 1, 0, none⟩ (.int .i64 0) D hDn).trans hK
  have HDD := Lib.hid (show w.heap.size ≤ D by have := HB1.out.size; omega)
  clear hD hW hK hs2 hbW hYW hDn x0 x3
  gi_wp2
  refine ⟨by simp, .inl ⟨_, _, rfl, run_takeDeferred HX.out, ?_⟩⟩
  refine ⟨_, results_int1 rfl _ _ (w.heap.size + 1) (.int .i64 0) rfl ((cell_putObj HX.out _).trans (HYW.out.cell 0)) Tryz.underlying3, rfl, ?_⟩
  exact (HBW.out.setCell (p := ⟨w.heap.size + 1, 0, none⟩) (Nat.le_succ _) _).trans ((Below.refl w.heap.size _).grown (grownBy_putObj' _ D _) (HBW.out.setCell (p := ⟨w.heap.size + 1, 0, none⟩) (Nat.le_succ _) _).size (fun k e => by cases e; exact HDD.out))
end Go.Proofs.YtbgnggkgmeagkaaGreatDoor
