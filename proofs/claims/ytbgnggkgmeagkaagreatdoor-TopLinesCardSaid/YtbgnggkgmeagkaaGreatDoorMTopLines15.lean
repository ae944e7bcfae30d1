/-
  What is made new: windows, streams, limits, stores, a client, a connection. No condition.
  The limit lets one by: the first of a key. No condition.
-/
import Derived.Test.YtbgnggkgmeagkaaGreatDoorMTopLines14
set_option linter.unusedSimpArgs false
set_option linter.unusedVariables false
namespace Go.Proofs.YtbgnggkgmeagkaaGreatDoor
open Go.RowKit
theorem results_cell1 {P : Program} {fn : Func} {p : Tmp} {ty : TypeId} (h : fn.results = #[.cell p ty]) (tmps : Array Value) (w : World) (g : Nat) (t : TypeId) (cs : Array Value) (d : TypeDesc)
    (hp : tmps.getD p undef = .pointer (some ⟨g, 0, none⟩)) (hg : Blk w g t cs)
    (hu : P.underlying ty = some d) (hd : (match d with | .struct _ | .array _ _ => true | _ => false) = true) (hi : (P.info? ty).map (·.size) = some cs.size) :
    (results fn tmps).run P w = .ok (.agg cs) w := by
  have hp' : tmps[p]?.getD undef = .pointer (some ⟨g, 0, none⟩) := by simpa using hp
  simp [results, h, hp', asAddr, run_loadVar_row w g t ty cs (0, 0) d hg hu hd hi]
theorem win_size {a : Value} : (Tryz.prog.info? 123).map (·.size) = some (#[a] : Array Value).size := by kernel_rfl
set_option maxRecDepth 100000 in
set_option maxHeartbeats 1000000 in
theorem cwindow (w : World) :
    Calls Tryz.prog 54 #[.int .i64 2000] w fun e w' => e = .returned (.agg #[.int .i64 2000]) ∧ Below w.heap.size w w' := by
  have hb := (Below.refl w.heap.size w).alloc (Nat.le_refl _) (.cells #[.int .i64 2000] 123)
  have hb2 := hb.alloc hb.size (.cells #[.int .i64 2000] 123)
  have HB := Lib.hid hb2
  clear hb hb2
  go_enter Tryz.func54, Tryz.ntmps54
  go_wp2_with (go_at_call 103; refine (fl_new 2000 (by decide) _).mono ?_; rintro e w' ⟨rfl, rfl⟩)
  refine bodyPost_ret (results_cell1 rfl _ _ w.heap.size _ _ _ rfl ((Blk.new w _ _).alloc _) Tryz.underlying123 rfl win_size) rfl ?_
  exact ⟨rfl, HB.out⟩
set_option maxRecDepth 100000 in
set_option maxHeartbeats 1000000 in
theorem nwindow (w : World) :
    Calls Tryz.prog 101 #[.int .i64 2000] w fun e w' => e = .returned (.agg #[.int .i64 2000]) ∧ Below w.heap.size w w' := by
  have hb := (Below.refl w.heap.size w).alloc (Nat.le_refl _) (.cells #[.int .i64 2000] 123)
  have hb2 := hb.alloc hb.size (.cells #[.int .i64 2000] 123)
  have HB := Lib.hid hb2
  clear hb hb2
  go_enter Tryz.func101, Tryz.ntmps101
  go_wp2_with (go_at_call 103; refine (fl_new 2000 (by decide) _).mono ?_; rintro e w' ⟨rfl, rfl⟩)
  refine bodyPost_ret (results_cell1 rfl _ _ w.heap.size _ _ _ rfl ((Blk.new w _ _).alloc _) Tryz.underlying123 rfl win_size) rfl ?_
  exact ⟨rfl, HB.out⟩
set_option maxRecDepth 100000 in
set_option maxHeartbeats 1000000 in
theorem st_new {w : World} {F : List Atom} (h : Sep w F) :
    Calls Tryz.prog 100 #[] w fun e w' => ∃ S M, e = .returned (.pointer (some ⟨S, 0, none⟩)) ∧ Sep w' (blkA S 254 #[.map (some M), .int .i64 0] :: mapA M #[] 0 :: F) := by
  have h1 := h.newMap.newBlk 254 #[.map (some w.heap.size), .int .i64 0]
  simp only [World.size_alloc] at h1
  have H := Lib.hid h1
  clear h1
  have q0 := fun w t => run_makeMap_plain (P := Tryz.prog) w t
  go_enter Tryz.func100, Tryz.ntmps100
  go_wp2
  go_ret
  exact ⟨_, _, rfl, H.out⟩
set_option maxRecDepth 100000 in
set_option maxHeartbeats 1000000 in
theorem li_new {w : World} {F : List Atom} (h : Sep w F) :
    Calls Tryz.prog 50 #[.int .i64 10, .int .i64 10] w fun e w' => ∃ S M M', e = .returned (.tuple #[.pointer (some ⟨S, 0, none⟩), .nilIface]) ∧ Sep w' (blkA S 193 #[.int .i64 10, .int .i64 10, .map (some M), .map (some M')] :: mapA M' #[] 0 :: mapA M #[] 0 :: F) := by
  have h1 := h.newMap.newMap.newBlk 193 #[.int .i64 10, .int .i64 10, .map (some w.heap.size), .map (some (w.heap.size + 1))]
  simp only [World.size_alloc] at h1
  have H := Lib.hid h1
  clear h1
  have q0 := fun w t => run_makeMap_plain (P := Tryz.prog) w t
  go_enter Tryz.func50, Tryz.ntmps50
  go_wp2
  go_ret2
  exact ⟨_, _, _, rfl, H.out⟩
set_option maxRecDepth 100000 in
set_option maxHeartbeats 1000000 in
theorem sto_new {w : World} {F : List Atom} (h : Sep w F) :
    Calls Tryz.prog 53 #[] w fun e w' => ∃ S, e = .returned (.pointer (some ⟨S, 0, none⟩)) ∧ Sep w' (blkA S 203 #[.slice none 0 0] :: F) := by
  have H := Lib.hid (h.newBlk 203 #[.slice none 0 0])
  go_enter Tryz.func53, Tryz.ntmps53
  go_wp2
  go_ret
  exact ⟨_, rfl, H.out⟩
/-- What a side says first. -/
def setF : Frm := ⟨4, 0, 0, []⟩
def setB : List UInt8 := [0, 0, 0, 4, 0, 0, 0, 0, 0]
theorem setF_ok : frmE setF = 0 ∧ frmL setF = setB := by decide
def cliV (C M : Nat) (ord inn out : Value) (win : Int) (last : Int) (part : Value) (on : Int) (ends : Bool) : Array Value :=
  #[.pointer (some ⟨C, 0, none⟩), .map (some M), ord, inn, out, .int .i64 win, .int .i64 2000, .int .i64 last, part, .int .i64 on, .bool ends, .int .i64 0, .bool false, .bool false]
set_option maxRecDepth 100000 in
set_option maxHeartbeats 1000000 in
theorem cli_new {w : World} {F : List Atom} (h : Sep w F) :
    Calls Tryz.prog 14 #[] w fun e w' => ∃ K M C g h A c, e = .returned (.pointer (some ⟨K, 0, none⟩)) ∧ Sep w' (blkA K 126 (cliV C M (.slice none 0 0) (.slice none 0 0) (.slice A 9 c) 2000 (-1) (.slice none 0 0) 0 false) :: rowA 5 1 (.slice A 9 c) 9 (bs setB) :: mapA M #[] 0 :: blkA C 93 (coderV g h) :: tabA g none 0 [] 4096 :: tabA h none 0 [] 4096 :: F) := by
  have H := Lib.hid h
  have q0 := fun w t => run_makeMap_plain (P := Tryz.prog) w t
  go_enter Tryz.func14, Tryz.ntmps14
  go_wp2_with fail
  refine (sep_coder H.out).mono ?_
  rintro e w1 ⟨C, g, k, rfl, h1, hb1⟩
  have H1 := Lib.hid h1
  clear h1 hb1
  go_wp2_with fail
  have h2 := H1.out.newMap
  have H2 := Lib.hid h2
  clear h2
  refine (cwindow _).mono ?_
  rintro e w3 ⟨rfl, hb⟩
  have h3 := (H2.out.below hb).newRow (e := 5) (size := 1) (Below.refl _ _) (World.ownsRow_nil _ _ _ _)
  have H3 := Lib.hid (h3.newBlk 126 (cliV C w1.heap.size (.slice none 0 0) (.slice none 0 0) (.slice none 0 0) 2000 (-1) (.slice none 0 0) 0 false))
  clear h3 hb
  go_wp2_with (go_at_call 55; refine (csay setF setF_ok.1 none 0 Reads.none_ _ (xs := []) (by decide) H3.out).mono ?_; rintro e w4 ⟨rfl, A, c, h4⟩; rw [setF_ok.2] at h4; have H4 := Lib.hid h4; clear h4)
  go_ret
  exact ⟨_, _, _, _, _, A, c, rfl, H4.out⟩
def conV (C S M : Nat) (ord inn out : Value) (iw ow : Int) (un : Int) (began : Bool) (part evs : Value) : Array Value :=
  #[.pointer (some ⟨C, 0, none⟩), .pointer (some ⟨S, 0, none⟩), .map (some M), ord, inn, out, .int .i64 iw, .int .i64 ow, .int .i64 2000, .int .i64 un, .bool began, .bool false, part, evs]
set_option maxRecDepth 100000 in
set_option maxHeartbeats 1000000 in
theorem con_new {w : World} {F : List Atom} (h : Sep w F) :
    Calls Tryz.prog 51 #[] w fun e w' => ∃ K S MS M C g h A c, e = .returned (.pointer (some ⟨K, 0, none⟩)) ∧ Sep w' (blkA K 200 (conV C S M (.slice none 0 0) (.slice none 0 0) (.slice A 9 c) 2000 2000 0 false (.pointer none) (.slice none 0 0)) :: rowA 5 1 (.slice A 9 c) 9 (bs setB) :: mapA M #[] 0 :: blkA S 254 #[.map (some MS), .int .i64 0] :: mapA MS #[] 0 :: blkA C 93 (coderV g h) :: tabA g none 0 [] 4096 :: tabA h none 0 [] 4096 :: F) := by
  have H := Lib.hid h
  have q0 := fun w t => run_makeMap_plain (P := Tryz.prog) w t
  go_enter Tryz.func51, Tryz.ntmps51
  go_wp2_with fail
  refine (sep_coder H.out).mono ?_
  rintro e w1 ⟨C, g, k, rfl, h1, hb1⟩
  have H1 := Lib.hid h1
  clear h1 hb1
  go_wp2_with fail
  refine (st_new H1.out).mono ?_
  rintro e w2 ⟨S, MS, rfl, h2⟩
  have H2 := Lib.hid h2.newMap
  clear h2
  go_wp2_with fail
  refine (nwindow _).mono ?_
  rintro e w3 ⟨rfl, hb⟩
  have H3 := Lib.hid (H2.out.below hb)
  clear hb
  go_wp2_with fail
  refine (nwindow _).mono ?_
  rintro e w4 ⟨rfl, hb⟩
  have h4 := (H3.out.below hb).newRow (e := 5) (size := 1) (Below.refl _ _) (World.ownsRow_nil _ _ _ _)
  have H4 := Lib.hid (h4.newBlk 200 (conV C S w2.heap.size (.slice none 0 0) (.slice none 0 0) (.slice none 0 0) 2000 2000 0 false (.pointer none) (.slice none 0 0)))
  clear h4 hb
  go_wp2_with (go_at_call 102; refine (nsay setF setF_ok.1 none 0 Reads.none_ _ (xs := []) (by decide) H4.out).mono ?_; rintro e w5 ⟨rfl, A, c, h5⟩; rw [setF_ok.2] at h5; have H5 := Lib.hid h5; clear h5)
  go_ret
  exact ⟨_, _, _, _, _, _, _, A, c, rfl, H5.out⟩
end Go.Proofs.YtbgnggkgmeagkaaGreatDoor
namespace Go.Proofs.YtbgnggkgmeagkaaGreatDoor
open Go.RowKit
/-- One entry, at a text. -/
def entS (k : ByteArray) (v : Value) : Array MapEntry := #[⟨.string k, v, 0⟩]
set_option maxRecDepth 100000 in
set_option maxHeartbeats 2000000 in
theorem li_ask {w : World} {F : List Atom} {Li LM LM' : Nat} (h : Sep w (blkA Li 193 #[.int .i64 10, .int .i64 10, .map (some LM), .map (some LM')] :: mapA LM' #[] 0 :: mapA LM #[] 0 :: F)) :
    Calls Tryz.prog 231 #[.pointer (some ⟨Li, 0, none⟩), .string ⟨#[104]⟩, .int .i64 0, .int .i64 1] w fun e w' => e = .returned (.tuple #[.bool true, .nilIface]) ∧ Sep w' F := by
  have kK := h.at_ (i := 0) rfl
  have q1 := run_look_no (P := Tryz.prog) (t := 191) (k := .string ⟨#[104]⟩) Tryz.underlying191 Tryz.underlying9 rfl (h.map_ (i := 1) rfl) (by rfl) (z := .int .i64 0) (by kernel_rfl) false
  have q2 := run_look_no (P := Tryz.prog) (t := 190) (k := .string ⟨#[104]⟩) Tryz.underlying190 Tryz.underlying9 rfl (h.map_ (i := 2) rfl) (by rfl) (z := .pointer none) (by kernel_rfl) false
  have q3 := run_mlen (P := Tryz.prog) (t := 190) 3 Tryz.underlying190 (h.map_ (i := 2) rfl)
  have h1 := h.newBlk 357 #[.int .i64 9, .int .i64 0]
  have kB := h1.at_ (i := 1) rfl
  have u1 : (Instr.mapUpdate 190 (.map (some LM)) (.string ⟨#[104]⟩) (.pointer (some ⟨w.heap.size, 0, none⟩))).run Tryz.prog (w.alloc (.cells #[.int .i64 9, .int .i64 0] 357)) = .ok () (putM (w.alloc (.cells #[.int .i64 9, .int .i64 0] 357)) LM (entS ⟨#[104]⟩ (.pointer (some ⟨w.heap.size, 0, none⟩))) 1) :=
    run_upd_new (P := Tryz.prog) (t := 190) (k := .string ⟨#[104]⟩) Tryz.underlying190 Tryz.underlying9 rfl (h1.map_ (i := 3) rfl) (by rfl) (.pointer (some ⟨w.heap.size, 0, none⟩))
  have h2 := h1.putMap (i := 3) (c' := 1) (es' := entS ⟨#[104]⟩ (.pointer (some ⟨w.heap.size, 0, none⟩))) rfl
  have k2 := h2.at_ (i := 1) rfl
  have u2 := run_upd_new (P := Tryz.prog) (t := 191) (k := .string ⟨#[104]⟩) Tryz.underlying191 Tryz.underlying9 rfl (h2.map_ (i := 2) rfl) (by rfl) (.int .i64 0)
  have h3 := h2.putMap (i := 2) (c' := 0 + 1) (es' := #[].push ⟨.string ⟨#[104]⟩, .int .i64 0, 0⟩) rfl
  have H := Lib.hid (show Sep _ F from h3.tail.tail.tail.tail)
  clear h h1 h2 h3
  go_enter Tryz.func231, Tryz.ntmps231
  go_wp2
  go_ret2
  exact ⟨rfl, H.out⟩
end Go.Proofs.YtbgnggkgmeagkaaGreatDoor
