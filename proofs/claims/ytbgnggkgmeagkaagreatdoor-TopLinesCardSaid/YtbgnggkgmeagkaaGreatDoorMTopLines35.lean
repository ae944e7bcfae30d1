/-
  tolltop.carry of the closed run: the request goes, the answer comes. Conditions: they are those of the run; the table of powers.
  A client asks: POST /p of h, with the body x. Condition: its first request.
  tolltop.echo at the one request. Conditions: the tables of powers and of de Bruijn.
  fields.Reply at the one answer. Condition: the table of powers.
-/
import Derived.Test.YtbgnggkgmeagkaaGreatDoorMTopLines34
import Derived.Test.YtbgnggkgmeagkaaGreatDoorMTopLines27
import Derived.Test.YtbgnggkgmeagkaaGreatDoorMTopLines17
import Derived.Test.YtbgnggkgmeagkaaGreatDoorMTopLines26
import Derived.Test.YtbgnggkgmeagkaaGreatDoorMTopLines22
import Derived.Deep.RegionHeld3
import Derived.Test.YtbgnggkgmeagkaaGreatDoorMTopLines28
import Derived.Test.YtbgnggkgmeagkaaGreatDoorMTopLines31
import Derived.RegionTactic
import Derived.Test.YtbgnggkgmeagkaaGreatDoorMTopLines32
import Derived.Test.YtbgnggkgmeagkaaGreatDoorMTopLines24
import Derived.Lib.SliceRun
set_option linter.unusedSimpArgs false
set_option linter.unusedVariables false
namespace Go.Proofs.YtbgnggkgmeagkaaGreatDoor
open Go.RowKit Go.Shelf
set_option maxRecDepth 100000 in
set_option maxHeartbeats 1000000 in
theorem fd_nil (w : World) (p : Value) (c : Nat) (z : Int) :
    Calls Tryz.prog 17 #[p, .slice none 0 c, .int .i64 z] w fun e w' => e = .returned (.bool true) ∧ w = w' := by
  go_enter Tryz.func17, Tryz.ntmps17
  go_wp2_with fail
  refine wp_loop_rounds 1 ?_
  rw [rounds_succ]
  go_wp2
  go_ret
  exact ⟨rfl, rfl⟩
set_option maxRecDepth 100000 in
set_option maxHeartbeats 1000000 in
theorem bk_nil (w : World) (p : Value) (c : Nat) (z : Int) :
    Calls Tryz.prog 63 #[p, .slice none 0 c, .int .i64 z] w fun e w' => e = .returned (.bool true) ∧ w = w' := by
  go_enter Tryz.func63, Tryz.ntmps63
  go_wp2_with fail
  refine wp_loop_rounds 1 ?_
  rw [rounds_succ]
  go_wp2
  go_ret
  exact ⟨rfl, rfl⟩
set_option maxRecDepth 100000 in
set_option maxHeartbeats 8000000 in
theorem cr_seven {w w0 : World} {F : List Atom} {io kb C M oc c G K gg rc Li LM LM' St CM JM S MS M2 C2 hh cc : Nat} {A OA RA A2 : Option Addr} (hP : Pow w0) (hio : F[io]? = some (oldA w0))
    (h0 : Sep w (blkA kb 126 (cliV C M (.slice OA 0 oc) (.slice none 0 0) (.slice A 36 c) 1999 1 (.slice none 0 0) 0 false) :: rowA 5 1 (.slice A 36 c) 36 (bs cliB) :: blkA G 120 (gatV K (.slice RA 1 rc) Li St CM JM 0 (.slice none 0 0)) :: blkA K 200 (conV C2 S M2 (.slice none 0 0) (.slice none 0 0) (.slice A2 9 cc) 2000 2000 0 false (.pointer none) (.slice none 0 0)) :: rowA 5 1 (.slice A2 9 cc) 9 (bs setB) ::
      mapA CM #[] 0 :: mapA M2 #[] 0 :: blkA S 254 (stmV MS 0) :: mapA MS #[] 0 :: blkA C2 93 (coderV gg hh) :: tabA hh none 0 [] 4096 :: blkA Li 193 #[.int .i64 10, .int .i64 10, .map (some LM), .map (some LM')] :: mapA LM' #[] 0 :: mapA LM #[] 0 :: blkA St 203 #[.slice none 0 0] :: rowA 47 3 (.slice RA 1 rc) 1 rtV :: mapA JM #[] 0 :: F)) :
    Calls Tryz.prog 22 #[.pointer (some ⟨kb, 0, none⟩), .pointer (some ⟨G, 0, none⟩), .int .i64 7] w fun e w' => e = .returned (.bool true) ∧ ∃ A0 c0 A1 c1 X Y FA fc D dc fa fc' ba bc' ad jc,
      Sep w' (blkA kb 126 (cliV C M (.slice OA 0 oc) (.slice A0 0 c0) (.slice none 0 0) 1999 1 (.slice none 0 0) 0 false) :: rowA 5 1 (.slice A0 0 c0) 0 [] :: blkA G 120 (gatV K (.slice RA 1 rc) Li St CM JM 1 (.slice none 0 0)) :: blkA K 200 (conV C2 S M2 (.slice none 0 0) (.slice A1 0 c1) (.slice none 0 0) 1999 2000 0 true (.pointer none) (.slice none 0 0)) ::
      mapA CM (ent1 (.pointer (some ⟨Y, 0, none⟩))) 1 :: blkA Y 146 (gclV (.slice FA 3 fc) (.slice D 1 dc) (.string ⟨#[80, 79, 83, 84]⟩) (.string ⟨#[47, 112]⟩) (.string ⟨#[104]⟩) (.slice fa 0 fc') (.slice ba 1 bc') 0) :: mapA JM (ent1 (.agg #[.int .i64 1, .string ⟨#[97, 108, 108]⟩, .slice (some ad) 39 jc])) 1 :: bytA ad askTL ::
      mapA M2 (ent1 (.pointer (some ⟨X, 0, none⟩))) 1 :: blkA X 313 (chnV 1999 2000 0 (.slice none 0 0) false false) :: blkA S 254 (stmV MS 1) :: mapA MS (ent1 (.int .i64 2)) 1 :: blkA C2 93 (coderV gg hh) :: rowA 5 1 (.slice A1 0 c1) 0 [] :: F) := by
  obtain ⟨b, rfl, -⟩ := h0.rowAt (i := 1) rfl (by decide)
  obtain ⟨b2, rfl, -⟩ := h0.rowAt (i := 4) rfl (by decide)
  have H0 := Lib.hid (cl_out h0)
  clear h0
  go_enter Tryz.func22, Tryz.ntmps22
  go_wp2_with fail
  refine wp_loop_rounds 3 ?_
  rw [rounds_succ]
  go_wp2_with fail
  refine (show Calls _ _ _ _ _ from H0.out).mono ?_
  rintro e w1 ⟨rfl, h1⟩
  have ho1 := Sep.ordN h1 17 [2, 3, 0, 1, 4, 5, 6, 7, 8, 9, 10, 11, 12, 13, 14, 15, 16] rfl (by decide)
  simp only [nthA, List.map_cons, List.map_nil, List.cons_append, List.nil_append, List.drop_succ_cons, List.drop_zero, List.drop_nil, List.append_nil] at ho1
  have H1 := Lib.hid (ga_out ho1)
  clear H0 h1
  go_wp2_with fail
  refine (show Calls _ _ _ _ _ from H1.out).mono ?_
  rintro e w2 ⟨rfl, h2⟩
  have ho2 := h2.nilRow 5 1
  have ho3 := Sep.ordN ho2 18 [1, 2, 0, 6, 7, 8, 9, 10, 11, 12, 13, 14, 15, 16, 17, 3, 4, 5] rfl (by decide)
  simp only [nthA, List.map_cons, List.map_nil, List.cons_append, List.nil_append, List.drop_succ_cons, List.drop_zero, List.drop_nil, List.append_nil] at ho3
  have H2 := Lib.hid (fd_cli hP (io := io + 3) hio (ib := 1) rfl ho3)
  clear H1 h2
  go_wp2_with fail
  refine (show Calls _ _ _ _ _ from H2.out).mono ?_
  rintro e w3 ⟨rfl, A3, c3, QA, qc, X, Y, FA, fc, D, dc, fa, fc', ba, bc', ad, jc, ev3, h3⟩
  have ho4 := h3.nilRow 5 1
  have ho5 := Sep.ordN ho4 17 [14, 0, 1, 2, 3, 4, 5, 6, 7, 8, 9, 10, 11, 12, 13, 15, 16] rfl (by decide)
  simp only [nthA, List.map_cons, List.map_nil, List.cons_append, List.nil_append, List.drop_succ_cons, List.drop_zero, List.drop_nil, List.append_nil] at ho5
  have H3 := Lib.hid (bk_set (ib := 14) rfl ho5)
  obtain ⟨q, rfl, -⟩ := h3.rowAt (i := 12) rfl (by decide)
  clear H2 h3
  go_wp2_with fail
  refine (show Calls _ _ _ _ _ from H3.out).mono ?_
  rintro e w4 ⟨rfl, A4, c4, QB, qb, h4⟩
  obtain ⟨q2, rfl, -⟩ := h4.rowAt (i := 2) rfl (by decide)
  have H4 := Lib.hid (cl_out h4)
  clear H3 h4
  go_wp2_with fail
  rw [rounds_succ]
  go_wp2_with fail
  refine (show Calls _ _ _ _ _ from H4.out).mono ?_
  rintro e w5 ⟨rfl, h5⟩
  have ho6 := Sep.ordN h5 18 [3, 4, 0, 1, 2, 5, 6, 7, 8, 9, 10, 11, 12, 13, 14, 15, 16, 17] rfl (by decide)
  simp only [nthA, List.map_cons, List.map_nil, List.cons_append, List.nil_append, List.drop_succ_cons, List.drop_zero, List.drop_nil, List.append_nil] at ho6
  have H5 := Lib.hid (ga_out ho6)
  clear H4 h5
  go_wp2_with fail
  refine (show Calls _ _ _ _ _ from H5.out).mono ?_
  rintro e w6 ⟨rfl, h6⟩
  have ho7 := Sep.ordN h6 18 [0, 1, 5, 2, 3, 4, 6, 7, 8, 9, 10, 11, 12, 13, 14, 15, 16, 17] rfl (by decide)
  simp only [nthA, List.map_cons, List.map_nil, List.cons_append, List.nil_append, List.drop_succ_cons, List.drop_zero, List.drop_nil, List.append_nil] at ho7
  have H6 := Lib.hid (fd_ans (ib := 2) rfl ho7)
  clear H5 h6
  go_wp2_with fail
  refine (show Calls _ _ _ _ _ from H6.out).mono ?_
  rintro e w7 ⟨rfl, A7, c7, h7⟩
  have ho8 := Sep.ordN h7 18 [3, 4, 0, 1, 2, 5, 6, 7, 8, 9, 10, 11, 12, 13, 14, 15, 16, 17] rfl (by decide)
  simp only [nthA, List.map_cons, List.map_nil, List.cons_append, List.nil_append, List.drop_succ_cons, List.drop_zero, List.drop_nil, List.append_nil] at ho8
  have H7 := Lib.hid (bk_ans (ib := 13) rfl ho8)
  clear H6 h7
  go_wp2_with fail
  refine (show Calls _ _ _ _ _ from H7.out).mono ?_
  rintro e w8 ⟨rfl, A8, c8, h8⟩
  have H8 := Lib.hid (cl_out h8)
  clear H7 h8
  go_wp2_with fail
  rw [rounds_succ]
  go_wp2_with fail
  refine (show Calls _ _ _ _ _ from H8.out).mono ?_
  rintro e w9 ⟨rfl, h9⟩
  have ho9 := Sep.ordN h9 18 [2, 3, 0, 1, 4, 5, 6, 7, 8, 9, 10, 11, 12, 13, 14, 15, 16, 17] rfl (by decide)
  simp only [nthA, List.map_cons, List.map_nil, List.cons_append, List.nil_append, List.drop_succ_cons, List.drop_zero, List.drop_nil, List.append_nil] at ho9
  have H9 := Lib.hid (ga_out ho9)
  clear H8 h9
  go_wp2_with fail
  refine (show Calls _ _ _ _ _ from H9.out).mono ?_
  rintro e w10 ⟨rfl, h10⟩
  have ho10 := Sep.ordN h10 18 [0, 1, 2, 3, 4, 6, 7, 8, 9, 10, 11, 12, 13, 14] rfl (by decide)
  simp only [nthA, List.map_cons, List.map_nil, List.cons_append, List.nil_append, List.drop_succ_cons, List.drop_zero, List.drop_nil, List.append_nil] at ho10
  have ho11 := Sep.ordN ho10 14 [2, 3, 0, 1, 5, 6, 7, 8, 9, 10, 11, 12, 13, 4] rfl (by decide)
  simp only [nthA, List.map_cons, List.map_nil, List.cons_append, List.nil_append, List.drop_succ_cons, List.drop_zero, List.drop_nil, List.append_nil] at ho11
  have H10 := Lib.hid ho11
  clear H9 h10
  go_wp2
  go_ret
  exact ⟨rfl, A8, c8, A7, c7, X, Y, FA, fc, D, dc, fa, fc', ba, bc', ad, jc, H10.out⟩
theorem own_ordG {w : World} {L : List Atom} {i oc : Nat} {OA : Option Addr} (h : Sep w L) (hi : L[i]? = some (rowA 3 1 (.slice OA 0 oc) 0 [])) : (OA = none ∧ oc = 0) ∨ ∃ g, OA = some ⟨g, 0, none⟩ := by
  obtain ⟨_, ⟨h2, _⟩ | ⟨g, _, _, h1, _⟩⟩ := h.row hi
  · cases h2; exact .inl ⟨rfl, rfl⟩
  · cases h1; exact .inr ⟨g, rfl⟩
set_option maxRecDepth 100000 in
set_option maxHeartbeats 8000000 in
theorem cr_three {w : World} {F : List Atom} {kb C M oc c k0 gg hh X mc G K Li St CM JM C2 S M2 g0 gc : Nat} {A A0 A1 OA GA : Option Addr} {Rt log evs q : Value} {iw last nw : Int}
    (h0 : Sep w (blkA kb 126 (cliV C M (.slice OA 0 oc) (.slice A0 0 k0) (.slice none 0 0) 1999 1 (.slice none 0 0) 0 false) :: rowA 5 1 (.slice A0 0 k0) 0 [] :: mapA M (ent1 (.pointer (some ⟨X, 0, none⟩))) mc :: blkA X 130 (callV nw q false (.slice none 0 0) false (.slice none 0 0) false) :: blkA C 93 (coderV gg hh) :: tabA hh none 0 [] 4096 :: blkA G 120 (gatV K Rt Li St CM JM last log) :: blkA K 200 (conV C2 S M2 (.slice GA 0 gc) (.slice A1 0 g0) (.slice A 26 c) iw 1996 0 true (.pointer none) evs) :: rowA 5 1 (.slice A1 0 g0) 0 [] :: rowA 5 1 (.slice A 26 c) 26 (bs rsB) :: rowA 3 1 (.slice GA 0 gc) 0 [] :: F)) :
    Calls Tryz.prog 22 #[.pointer (some ⟨kb, 0, none⟩), .pointer (some ⟨G, 0, none⟩), .int .i64 3] w fun e w' => e = .returned (.bool true) ∧ ∃ A' c' D dc DB db P',
      Sep w' (blkA kb 126 (cliV C M (.slice OA 0 oc) (.slice A' 0 c') (.slice none 0 0) 1999 1 P' 0 false) :: mapA M (ent1 (.pointer (some ⟨X, 0, none⟩))) mc :: blkA X 130 (callV nw q false (.slice D 2 dc) true (.slice DB 4 db) true) :: rowA 5 1 (.slice DB 4 db) 4 (bs bodyL) :: rowA 41 2 (.slice D 2 dc) 2 (fvs repL) :: F) := by
  obtain ⟨b, rfl, -⟩ := h0.rowAt (i := 9) rfl (by decide)
  have ho := own_ordG h0 (i := 10) rfl
  have HO := Lib.hid ho
  clear ho
  have H0 := Lib.hid (cl_out h0)
  clear h0
  go_enter Tryz.func22, Tryz.ntmps22
  go_wp2_with fail
  refine wp_loop_rounds 3 ?_
  rw [rounds_succ]
  go_wp2_with fail
  refine (show Calls _ _ _ _ _ from H0.out).mono ?_
  rintro e w1 ⟨rfl, h1⟩
  have ho1 := Sep.ordN h1 11 [6, 7, 0, 1, 2, 3, 4, 5, 8, 9, 10] rfl (by decide)
  simp only [nthA, List.map_cons, List.map_nil, List.cons_append, List.nil_append, List.drop_succ_cons, List.drop_zero, List.drop_nil, List.append_nil] at ho1
  have H1 := Lib.hid (ga_out ho1)
  clear H0 h1
  go_wp2_with fail
  refine (show Calls _ _ _ _ _ from H1.out).mono ?_
  rintro e w2 ⟨rfl, h2⟩
  have ho2 := Sep.ordN h2 11 [2, 3, 4, 5, 6, 7, 0, 1, 8, 9, 10] rfl (by decide)
  simp only [nthA, List.map_cons, List.map_nil, List.cons_append, List.nil_append, List.drop_succ_cons, List.drop_zero, List.drop_nil, List.append_nil] at ho2
  have H2 := Lib.hid (bk_rep (ib := 3) rfl ho2)
  clear H1 h2
  go_wp2_with fail
  refine (fd_nil _ _ _ _).mono ?_
  rintro e w2' ⟨rfl, rfl⟩
  go_wp2_with fail
  refine (show Calls _ _ _ _ _ from H2.out).mono ?_
  rintro e w3 ⟨rfl, A3, c3, D, dc, DB, db, QA, qc, P3, h3⟩
  obtain ⟨q3, rfl, -⟩ := h3.rowAt (i := 2) rfl (by decide)
  have H3 := Lib.hid (cl_out h3)
  clear H2 h3
  go_wp2_with fail
  rw [rounds_succ]
  go_wp2_with fail
  refine (show Calls _ _ _ _ _ from H3.out).mono ?_
  rintro e w4 ⟨rfl, h4⟩
  have ho3 := Sep.ordN h4 12 [7, 8, 0, 1, 2, 3, 4, 5, 6, 9, 10, 11] rfl (by decide)
  simp only [nthA, List.map_cons, List.map_nil, List.cons_append, List.nil_append, List.drop_succ_cons, List.drop_zero, List.drop_nil, List.append_nil] at ho3
  have H4 := Lib.hid (ga_out ho3)
  clear H3 h4
  go_wp2_with fail
  refine (show Calls _ _ _ _ _ from H4.out).mono ?_
  rintro e w5 ⟨rfl, h5⟩
  have ho4 := Sep.ordN h5 12 [0, 1, 9, 2, 3, 4, 5, 6, 7, 8, 10, 11] rfl (by decide)
  simp only [nthA, List.map_cons, List.map_nil, List.cons_append, List.nil_append, List.drop_succ_cons, List.drop_zero, List.drop_nil, List.append_nil] at ho4
  have H5 := Lib.hid (fd_wide (HO.out.imp id fun ⟨g, e⟩ => ⟨g, 8, e, rfl⟩) (ib := 2) rfl ho4)
  clear H4 h5
  go_wp2_with fail
  refine (show Calls _ _ _ _ _ from H5.out).mono ?_
  rintro e w6 ⟨rfl, A6, c6, h6⟩
  have H6 := Lib.hid h6
  clear H5 h6
  go_wp2_with fail
  refine (bk_nil _ _ _ _).mono ?_
  rintro e w6' ⟨rfl, rfl⟩
  have ho5 := Sep.ordN H6.out 12 [3, 0, 1, 2, 4, 5, 6, 7, 8, 9, 10, 11] rfl (by decide)
  simp only [nthA, List.map_cons, List.map_nil, List.cons_append, List.nil_append, List.drop_succ_cons, List.drop_zero, List.drop_nil, List.append_nil] at ho5
  have H7 := Lib.hid (cl_out ho5)
  clear H6
  go_wp2_with fail
  rw [rounds_succ]
  go_wp2_with fail
  refine (show Calls _ _ _ _ _ from H7.out).mono ?_
  rintro e w8 ⟨rfl, h8⟩
  have ho6 := Sep.ordN h8 12 [1, 2, 0, 3, 4, 5, 6, 7, 8, 9, 10, 11] rfl (by decide)
  simp only [nthA, List.map_cons, List.map_nil, List.cons_append, List.nil_append, List.drop_succ_cons, List.drop_zero, List.drop_nil, List.append_nil] at ho6
  have H8 := Lib.hid (ga_out ho6)
  clear H7 h8
  go_wp2_with fail
  refine (show Calls _ _ _ _ _ from H8.out).mono ?_
  rintro e w9 ⟨rfl, h9⟩
  have ho7 := Sep.ordN h9 12 [2, 6, 7, 8, 9] rfl (by decide)
  simp only [nthA, List.map_cons, List.map_nil, List.cons_append, List.nil_append, List.drop_succ_cons, List.drop_zero, List.drop_nil, List.append_nil] at ho7
  have ho8 := Sep.ordN ho7 5 [0, 1, 2, 3, 4] rfl (by decide)
  simp only [nthA, List.map_cons, List.map_nil, List.cons_append, List.nil_append, List.drop_succ_cons, List.drop_zero, List.drop_nil, List.append_nil] at ho8
  have H9 := Lib.hid ho8
  clear H8 h9
  go_wp2
  go_ret
  exact ⟨rfl, A3, c3, D, dc, DB, db, P3, H9.out⟩
end Go.Proofs.YtbgnggkgmeagkaaGreatDoor
namespace Go.Proofs.YtbgnggkgmeagkaaGreatDoor
open Go.RowKit
def postL : List UInt8 := [80, 79, 83, 84]
def pL : List UInt8 := [47, 112]
def hL : List UInt8 := [104]
def blkL : List UInt8 := [130, 67, 2, 47, 112, 68, 1, 104]
theorem ask_said : saidL 4096 [] (listL postL pL hL []) = blkL ∧ saidE (listL postL pL hL []) = 0 := ⟨by kernel_rfl, by kernel_rfl⟩
theorem ask_ok : ∀ f ∈ listL postL pL hL [], fOk f := by
  intro f hf
  simp only [listL, expL, List.mem_cons, List.flatMap_nil, List.not_mem_nil, or_false] at hf
  rcases hf with rfl | rfl | rfl <;> (constructor <;> decide)
theorem byt_reads {w : World} {L : List Atom} {i : Nat} {ad : Addr} {BA : Option Addr} (h : Sep w L) (hi : L[i]? = some (bytA ad [120])) (e : BA = some ad) : Reads w w.heap.size 1 BA 1 (bs [120]) := by
  subst e
  exact h.byt hi
def askF : Frm := ⟨1, 4, 1, blkL⟩
def askB : List UInt8 := [0, 0, 8, 1, 4, 0, 0, 0, 1, 130, 67, 2, 47, 112, 68, 1, 104]
theorem askF_ok : frmE askF = 0 ∧ frmL askF = askB := by decide
set_option maxRecDepth 100000 in
set_option maxHeartbeats 4000000 in
theorem cl_ask {w : World} {F : List Atom} {kb C M g h n c ib bc : Nat} {A BA : Option Addr} {xs : List UInt8} (hn : n ≤ 1000) (hM : MaxL w) {ad : Addr} (hBA : BA = some ad) (hib : F[ib]? = some (bytA ad [120]))
    (H0 : Sep w (blkA kb 126 (cliV C M (.slice none 0 0) (.slice none 0 0) (.slice A n c) 2000 (-1) (.slice none 0 0) 0 false) :: rowA 5 1 (.slice A n c) n (bs xs) :: mapA M #[] 0 :: blkA C 93 (coderV g h) :: tabA g none 0 [] 4096 :: tabA h none 0 [] 4096 :: F)) :
    Calls Tryz.prog 15 #[.pointer (some ⟨kb, 0, none⟩), .agg (reqV postL pL hL none 0 0 BA 1 bc)] w fun e w' => e = .returned (.tuple #[.int .i64 1, .nilIface]) ∧ ∃ A' c' OA oc X Q', Sep w' (blkA kb 126 (cliV C M (.slice OA 0 oc) (.slice none 0 0) (.slice A' (n + 27) c') 1999 1 (.slice none 0 0) 0 false) :: rowA 5 1 (.slice A' (n + 27) c') (n + 27) (bs (xs ++ [0, 0, 8, 1, 4, 0, 0, 0, 1, 130, 67, 2, 47, 112, 68, 1, 104, 0, 0, 1, 0, 1, 0, 0, 0, 1, 120])) ::
      rowA 3 1 (.slice OA 0 oc) 0 [] :: mapA M (ent1 (.pointer (some ⟨X, 0, none⟩))) 1 :: blkA X 130 (callV 1999 Q' false (.slice none 0 0) false (.slice none 0 0) false) :: blkA C 93 (coderV g h) :: tabA h none 0 [] 4096 :: F) := by
  have HBA := Lib.hid hBA
  clear hBA
  have h1 := H0.newBlk 25 (reqV postL pL hL none 0 0 BA 1 bc)
  have kX := h1.at_ (i := 0) rfl
  have kK := h1.at_ (i := 1) rfl
  have hM1 := hM.next ((Below.refl w.heap.size w).alloc (Nat.le_refl _) (.cells (reqV postL pL hL none 0 0 BA 1 bc) 25))
  have H1 := Lib.hid h1
  have HM := Lib.hid hM1
  unfold cliV at kK
  unfold reqV at kX
  clear h1 H0 hM hM1
  go_enter Tryz.func15, Tryz.ntmps15
  unfold reqV
  go_wp2_with fail
  refine (flist_ok postL pL hL [] 1 (by decide) none 0 0 rfl BA bc _ HM.out Reads.none_).mono ?_
  rintro e w1 ⟨LA, lc, rfl, hown, hb⟩
  have h2 := (H1.out.newRow hb hown)
  have kX := h2.at_ (i := 1) rfl
  have kK := h2.at_ (i := 2) rfl
  have H2 := Lib.hid h2
  unfold cliV at kK
  unfold reqV at kX
  clear h2 hown hb HM
  go_wp2_with (go_at_call 56; refine (cl_open H2.out (i := 2) rfl).mono ?_; rintro e w' ⟨rfl, rfl⟩)
  refine (sep_encode ((H2.out.front 6 rfl).front 6 rfl) (listL postL pL hL []) ask_ok (by decide) ask_said.2 LA _ lc 0 rfl rfl).mono ?_
  rintro e w2 ⟨PA, n2, pc, rfl, rfl, h3⟩
  rw [ask_said.1] at h3 ⊢
  have hX := (h3.at_ (i := 3) rfl)
  have kK := h3.at_ (i := 4) rfl
  have H3 := Lib.hid h3
  clear kX h3 H2
  have kX := hX
  unfold cliV at kK
  unfold reqV at kX
  clear hX
  go_wp2_with fail
  obtain ⟨w5, hw5⟩ : ∃ w5, w2.setCell ⟨kb, 7, none⟩ (.int .i64 1) = w5 := ⟨_, rfl⟩
  have h5 := H3.out.set_ (i := 4) rfl 7 (.int .i64 1)
  rw [hw5] at h5 ⊢
  change Sep w5 (_ :: _ :: _ :: blkA _ _ _ :: blkA kb _ (cliV C M (.slice none 0 0) (.slice none 0 0) (.slice A n c) 2000 1 (.slice none 0 0) 0 false) :: _) at h5
  clear kX kK H3 hw5
  have kX := h5.at_ (i := 3) rfl
  have kK := h5.at_ (i := 4) rfl
  have HR := Lib.hid (byt_reads h5 (i := ib + 8) hib HBA.out)
  have H5 := Lib.hid h5.drew
  unfold cliV at kK
  unfold reqV at kX
  clear h5
  go_region_held3 (fun w' => w'.cell? ⟨kb, 6, none⟩ = some (.int .i64 2000) ∧ w'.cell? ⟨w.heap.size, 4, none⟩ = some (.slice BA 1 bc))
    (first | exact ⟨kK.1 6, kX.1 4⟩ | exact ⟨kK6.1 6, kX6.1 4⟩ | exact ⟨kK7.1 6, kX7.1 4⟩ | go_keep)
    (first
    | (go_at_call 54; refine (cwindow _).mono ?_; rintro e w6 ⟨rfl, hb6⟩; have h6 := H5.out.below hb6; have kX6 := h6.at_ (i := 3) rfl; have kK6 := h6.at_ (i := 4) rfl; have HR6 := Lib.hid (byt_reads h6 (i := ib + 8) hib HBA.out); have H6 := Lib.hid h6; unfold cliV at kK6; unfold reqV at kX6; clear h6 hb6)
    | (go_at_call 46; refine (clone_any BA [120] 1 bc rfl (fun e => by rw [HBA.out] at e; cases e) (by decide) _ HR6.out).mono ?_; rintro e w7 ⟨QA, qc, rfl, hown7, hb7⟩; have h7 := H6.out.below hb7; have kX7 := h7.at_ (i := 3) rfl; have kK7 := h7.at_ (i := 4) rfl; have H7 := Lib.hid (H6.out.newRow hb7 hown7); unfold cliV at kK7; unfold reqV at kX7; clear h7 hb7 hown7))
  have h8 := H7.out.newBlk 130 (callV 2000 (.slice QA 1 qc) true (.slice none 0 0) false (.slice none 0 0) false)
  obtain ⟨W8, hW8⟩ : ∃ W8, w7.alloc (.cells (callV 2000 (.slice QA 1 qc) true (.slice none 0 0) false (.slice none 0 0) false) 130) = W8 := ⟨_, rfl⟩
  rw [hW8] at h8
  have hs8 : w7.heap.size < W8.heap.size := by rw [← hW8]; simp
  have kX := h8.at_ (i := 5) rfl
  have kK := h8.at_ (i := 6) rfl
  have qm : (Instr.mapUpdate 121 (.map (some M)) (.int .i64 1) (.pointer (some ⟨w7.heap.size, 0, none⟩))).run Tryz.prog W8 = .ok () (putM W8 M (ent1 (.pointer (some ⟨w7.heap.size, 0, none⟩))) 1) := run_upd_new (P := Tryz.prog) (t := 121) (k := .int .i64 1) Tryz.underlying121 Tryz.underlying3 rfl (h8.map_ (i := 8) rfl) (by rfl) (.pointer (some ⟨w7.heap.size, 0, none⟩))
  have h9 := h8.putMap (i := 8) rfl (es' := ent1 (.pointer (some ⟨w7.heap.size, 0, none⟩))) (c' := 1)
  have H9 := Lib.hid h9
  unfold cliV at kK
  unfold reqV at kX
  unfold callV at hW8
  clear h8 h9
  go_upto_region 15 with fail
  obtain ⟨w9, hw9⟩ : ∃ w9, putM W8 M (ent1 (.pointer (some ⟨w7.heap.size, 0, none⟩))) 1 = w9 := ⟨_, rfl⟩
  have h9 := H9.out
  rw [hw9] at h9 ⊢
  clear kX kK qm H9 hw9 hW8
  obtain ⟨X, hX⟩ : ∃ X, w7.heap.size = X := ⟨_, rfl⟩
  rw [hX] at h9 ⊢
  have kC := h9.at_ (i := 0) rfl
  have hcap := h9.cap (i := 2) rfl
  have HS := Lib.hid (split_one 1 blkL PA blkL.length pc rfl (by decide) (by decide) hcap false w9 (reads_sep h9 (i := 2) rfl))
  have H9 := Lib.hid h9
  unfold callV at kC
  clear h9 hX hs8
  go_wp2_with fail
  refine HS.out.mono ?_
  rintro e w10 ⟨gg, c3, A3, ac, rfl, hb3, ⟨q0, q1, q2, q3⟩, hr3⟩
  simp only [Bool.false_eq_true, if_false, Int.zero_add] at q1
  have h3 := H9.out.below hb3
  have HR3 := Lib.hid hr3
  have hgl := World.block_lt_of_cell? w10 _ q0
  have H3 := Lib.hid h3
  clear h3 hr3 H9 HS hb3 hcap kC
  go_wp2
  refine wp_loop_rounds 2 ?_
  rw [rounds_succ]
  go_wp2_with fail
  have h4 := H3.out.newBlk 134 #[.int .i64 1, .int .i64 4, .int .i64 1, .slice A3 blkL.length ac]
  have hba := (Below.refl w10.heap.size w10).alloc (Nat.le_refl _) (.cells #[.int .i64 1, .int .i64 4, .int .i64 1, .slice A3 blkL.length ac] 134)
  have HR4 := Lib.hid ((HR3.out.below hba).more hba.size)
  have H4 := Lib.hid ((h4.front 8 rfl).front 8 rfl)
  clear h4 hba HR3 H3 q0 q1 q2 q3 hgl
  refine (csay askF askF_ok.1 A3 ac HR4.out kb (xs := xs) (by omega) H4.out).mono ?_
  rintro e w11 ⟨rfl, A5, c5, h5⟩
  rw [askF_ok.2] at h5
  have kX := h5.at_ (i := 3) rfl
  have kK := h5.at_ (i := 0) rfl
  have h6 := (h5.nilRow 3 1).newBlk 3 #[.int .i64 1]
  have H6 := Lib.hid h6
  unfold callV at kX
  clear h5 h6 H4 HR4
  go_wp2
  rw [rounds_succ]
  go_wp2_with (at_builtin; refine wpList_pushS rfl _ _ 58 3 rfl Tryz.underlying58 int_info rfl (by decide) (by decide) _ 0 [] H6.out (i := 1) rfl rfl _ _ (j := 0) rfl rfl (by intro u hu; simp at hu; subst hu; rfl) rfl (by decide) ?_; intro A7 c7 w7 h7 _; have kK7 := h7.at_ (i := 2) rfl; have H7 := Lib.hid h7; clear h7)
  have h8 := H7.out.set_ (i := 2) rfl 2 (.slice A7 1 c7)
  change Sep _ (_ :: rowA _ 1 (.slice A7 1 c7) 1 [.int .i64 1] :: blkA kb _ (cliV C M (.slice A7 1 c7) (.slice none 0 0) (.slice A5 (n + 17) c5) 2000 1 (.slice none 0 0) 0 false) :: _) at h8
  have h10 := ((((((h8.front 6 rfl).front 6 rfl).front 11 rfl).front 4 rfl).front 6 rfl).front 6 rfl)
  have HC := Lib.hid (cp_one (by omega) h10)
  clear kX kK kK7 H6 H7 h8 h10
  refine (show Calls _ _ _ _ _ from HC.out).mono ?_
  rintro e w12 ⟨rfl, A9, c9, Q9, h12⟩
  rw [List.append_assoc] at h12
  have H12 := Lib.hid ((((((h12.drop_ 5).drop_ 5).drop_ 5).drop_ 5).drop_ 6).drop_ 6)
  clear h12 HC
  go_wp2
  go_ret2
  exact ⟨rfl, A9, c9, A7, c7, X, Q9, H12.out⟩
end Go.Proofs.YtbgnggkgmeagkaaGreatDoor
namespace Go.Proofs.YtbgnggkgmeagkaaGreatDoor
open Go.RowKit Go.Shelf
theorem ec1 : ByteArray.mk #[47, 112] ++ ByteArray.mk #[33] = ⟨#[47, 112, 33]⟩ := by kernel_rfl
set_option maxRecDepth 100000 in
set_option maxHeartbeats 4000000 in
theorem ec_ok {w w0 : World} {F : List Atom} {io ia c : Nat} {A : Option Addr} (hP : Pow w0) (hD : DeB w0) (hio : F[io]? = some (oldA w0)) (hia : F[ia]? = some (rowA 5 1 (.slice A 39 c) 39 (bs askTL))) (h : Sep w F) :
    Calls Tryz.prog 23 #[.slice A 39 c] w fun e w' => ∃ b o c', e = .returned (.tuple #[.slice (some ⟨b, o, none⟩) 45 c', .bool true]) ∧ 45 ≤ c' ∧ Sep w' (bytA ⟨b, o, none⟩ repTL :: F) := by
  have hc := h.cap hia
  have HRA := Lib.hid (readAsk_ok [80, 79, 83, 84] [47, 112] [104] [] [120] askTL_ok.1 A 39 c askTL_ok.2.symm (show askTL.length ≤ c by rw [askTL_ok.2]; exact hc) w (show Reads w w.heap.size 1 A askTL.length (bs askTL) by rw [askTL_ok.2]; exact reads_sep h hia))
  have H := Lib.hid h
  clear h
  go_enter Tryz.func23, Tryz.ntmps23
  go_wp2_with fail
  refine HRA.out.mono ?_
  rintro e w1 ⟨v, rfl, FA, fc, BA, bc, rfl, -, hob, hb⟩
  have hob : w1.ownsRow w.heap.size 5 1 (.slice BA 1 bc) 1 (bs [120]) := hob
  have h2 := (H.out.newRow hb hob).newBlk 25 (reqV [80, 79, 83, 84] [47, 112] [104] FA 0 fc BA 1 bc)
  have hl0 : ([] : List Fld).length = 0 := rfl
  have hl1 : ([120] : List UInt8).length = 1 := rfl
  rw [hl0, hl1]
  obtain ⟨W2, hW2⟩ : ∃ W2, w1.alloc (.cells (reqV [80, 79, 83, 84] [47, 112] [104] FA 0 fc BA 1 bc) 25) = W2 := ⟨_, rfl⟩
  rw [hW2] at h2
  have kX := h2.at_ (i := 0) rfl
  have e1 := ec1
  obtain ⟨cc, W5, hcv, hb5, v5, W6, hap, hfin⟩ := run_append_str 23 W2 [47, 112, 33] BA bc [120] (reads_sep h2 (i := 1) rfl) (by decide)
  obtain ⟨ad, cq, rfl, hcq, hs⟩ := h2.newByt hfin
  have hs : Sep W6 (bytA ad bodyL :: _) := hs
  obtain ⟨b, o, e2, -, -⟩ := (hs.byt (i := 0) rfl).form (by decide)
  cases e2
  have hap : (Builtin.append_ #[23, 23] 23 #[.slice (some ⟨W2.heap.size, 0, none⟩) 3 cc, .slice BA 1 bc]).run Tryz.prog W5 = .ok (.slice (some ⟨b, o, none⟩) 4 cq) W6 := hap
  have hcv : (convert 9 23 (.string ⟨#[47, 112, 33]⟩)).run Tryz.prog W2 = .ok (.slice (some ⟨W2.heap.size, 0, none⟩) 3 cc) W5 := hcv
  have hk5 : ∀ a : Addr, a.block < W2.heap.size → W5.cell? a = W2.cell? a := fun a ha => hb5.cell ha
  have k4 : W5.cell? ⟨w1.heap.size, 4, none⟩ = some (.slice BA 1 bc) := (hk5 ⟨w1.heap.size, 4, none⟩ kX.2.2).trans (kX.1 4)
  have hcq : 4 ≤ cq := hcq
  have HS := Lib.hid hs
  have HAP := Lib.hid hap
  unfold reqV at kX hW2 ⊢
  clear hfin hb5 hap hs h2 hob hb HRA H hk5
  go_wp2_with (at_builtin; refine wpList_append_run rfl _ _ _ rfl _ _ rfl rfl _ _ HAP.out ?_)
  have HT := Lib.hid (tl_tell (io := io + 3) hP hD hio (fun W hW => hW.byt (i := 0) rfl) hcq HS.out)
  clear kX k4 HAP HS hcv
  refine (show Calls _ _ _ _ _ from HT.out).mono ?_
  rintro e w7 ⟨b7, o7, c7, rfl, h45, h7⟩
  have H7 := Lib.hid h7
  clear HT h7
  go_wp2
  have h8 := Lib.hid H7.out.drew
  go_region

  all_goals
    go_wp2
    go_ret2
    exact ⟨b7, o7, c7, rfl, h45, ((h8.out.drop_ 1).drop_ 1).drop_ 1⟩
end Go.Proofs.YtbgnggkgmeagkaaGreatDoor
namespace Go.Proofs.YtbgnggkgmeagkaaGreatDoor
open Go.RowKit Go.Shelf
theorem bytes_below (w : World) (e : TypeId) (s : ByteArray) : Below w.heap.size w (Lib.bytesWorld w e s) := by
  refine ⟨?_, ?_, ?_, by rw [Lib.bytesWorld_size]; omega, fun k hk => Lib.bytesWorld_at_old _ _ _ k hk⟩
  all_goals simp [Lib.bytesWorld, World.freeze, World.alloc, World.drew, -World.alloc_eq, -World.drew_eq]
theorem atoi_200 (w : World) : Calls Tryz.prog 131 #[.string ⟨#[50, 48, 48]⟩] w fun e w' => e = .returned (.tuple #[.int .i64 200, .nilIface]) ∧ Below w.heap.size w w' := by
  refine (Tryz.strconv_Atoi ⟨#[50, 48, 48]⟩ 200 (by decide) (by kernel_rfl) w).mono ?_
  rintro e w' ⟨h, t, rfl⟩
  exact ⟨h, bytes_below _ _ _⟩
def lenVs : List Value := [.string ⟨#[108, 101, 110, 103, 116, 104]⟩, .string ⟨#[52]⟩]
theorem rep_cells {w : World} {L : List Atom} {i c : Nat} {A : Option Addr} (h : Sep w L) (hi : L[i]? = some (rowA 41 2 (.slice A 2 c) 2 (fvs repL))) :
    ∃ g, A = some ⟨g, 0, none⟩ ∧ g < w.heap.size ∧ 2 ≤ c ∧ w.cell? ⟨g, 0, none⟩ = some (.string ⟨#[58, 99, 111, 100, 101]⟩) ∧ w.cell? ⟨g, 1, none⟩ = some (.string ⟨#[50, 48, 48]⟩) ∧ w.cell? ⟨g, 2, none⟩ = some (.string ⟨#[108, 101, 110, 103, 116, 104]⟩) ∧ w.cell? ⟨g, 3, none⟩ = some (.string ⟨#[52]⟩) := by
  obtain ⟨h1, h2⟩ := h.row hi
  rcases h2 with ⟨_, h3⟩ | ⟨g, cap, cur, hv, _, hg, hc, _, hcs, ht⟩
  · cases h3
  · cases hv
    have hk : ∀ j u, (fvs repL)[j]? = some u → w.cell? ⟨g, j, none⟩ = some u := by
      intro j u hu
      rw [Blk.cell (t := 41) (cs := cur) hg j]
      rw [← ht] at hu
      have hj : j < 2 * 2 := by
        have := (List.getElem?_eq_some_iff.1 hu).1
        simp only [List.length_take] at this
        omega
      rw [List.getElem?_take, if_pos hj] at hu
      simpa using hu
    exact ⟨g, rfl, Blk.lt (t := 41) (cs := cur) hg, hc, hk 0 _ rfl, hk 1 _ rfl, hk 2 _ rfl, hk 3 _ rfl⟩
set_option maxRecDepth 100000 in
set_option maxHeartbeats 1000000 in
theorem rp_fn1 (w : World) : Calls Tryz.prog 130 #[.agg #[.string ⟨#[108, 101, 110, 103, 116, 104]⟩, .string ⟨#[52]⟩]] w fun e w' => e = .returned (.bool false) ∧ Below w.heap.size w w' := by
  have HB := Lib.hid ((Below.refl w.heap.size w).alloc (Nat.le_refl _) (.cells #[.string ⟨#[108, 101, 110, 103, 116, 104]⟩, .string ⟨#[52]⟩] 41))
  have HP := Lib.hid (Tryz.strings_HasPrefix ⟨#[108, 101, 110, 103, 116, 104]⟩ ⟨#[58]⟩ (w.alloc (.cells #[.string ⟨#[108, 101, 110, 103, 116, 104]⟩, .string ⟨#[52]⟩] 41)))
  go_enter Tryz.func130, Tryz.ntmps130
  go_wp2_with fail
  refine HP.out.mono ?_
  rintro e w' ⟨rfl, rfl⟩
  rw [show Lib.hasPrefix [108, 101, 110, 103, 116, 104] [58] = false from by decide]
  go_wp2
  go_ret
  exact ⟨rfl, HB.out⟩
set_option maxRecDepth 100000 in
set_option maxHeartbeats 1000000 in
theorem rp_fn2 (w : World) : Calls Tryz.prog 133 #[.agg #[.string ⟨#[108, 101, 110, 103, 116, 104]⟩, .string ⟨#[52]⟩]] w fun e w' => e = .returned (.bool true) ∧ Below w.heap.size w w' := by
  have HB := Lib.hid ((Below.refl w.heap.size w).alloc (Nat.le_refl _) (.cells #[.string ⟨#[108, 101, 110, 103, 116, 104]⟩, .string ⟨#[52]⟩] 41))
  go_enter Tryz.func133, Tryz.ntmps133
  go_wp2
  go_ret
  exact ⟨rfl, HB.out⟩
set_option maxRecDepth 100000 in
set_option maxHeartbeats 1000000 in
theorem rp_ix1 (g o c : Nat) (hc : 1 ≤ c) (w : World) (h0 : w.cell? ⟨g, o, none⟩ = some (.string ⟨#[108, 101, 110, 103, 116, 104]⟩)) (h1 : w.cell? ⟨g, o + 1, none⟩ = some (.string ⟨#[52]⟩)) :
    Calls Tryz.prog 175 #[.slice (some ⟨g, o, none⟩) 1 c, .func (.func 130) #[] #[]] w fun e w' => e = .returned (.int .i64 (-1)) ∧ Below w.heap.size w w' := by
  go_enter Tryz.func175, Tryz.ntmps175
  go_wp2
  refine wp_loop_rounds 2 ?_
  rw [rounds_succ]
  go_wp2_with fail
  refine (rp_fn1 w).mono ?_
  rintro e w1 ⟨rfl, hb⟩
  have HB := Lib.hid hb
  clear hb
  go_wp2
  rw [rounds_succ]
  go_wp2
  go_ret
  exact ⟨rfl, HB.out⟩
set_option maxRecDepth 100000 in
set_option maxHeartbeats 1000000 in
theorem rp_has (g o c : Nat) (hc : 1 ≤ c) (w : World) (h0 : w.cell? ⟨g, o, none⟩ = some (.string ⟨#[108, 101, 110, 103, 116, 104]⟩)) (h1 : w.cell? ⟨g, o + 1, none⟩ = some (.string ⟨#[52]⟩)) :
    Calls Tryz.prog 129 #[.slice (some ⟨g, o, none⟩) 1 c, .func (.func 130) #[] #[]] w fun e w' => e = .returned (.bool false) ∧ Below w.heap.size w w' := by
  have HI := Lib.hid (rp_ix1 g o c hc w h0 h1)
  clear h0 h1
  go_enter Tryz.func129, Tryz.ntmps129
  go_wp2_with fail
  refine HI.out.mono ?_
  rintro e w1 ⟨rfl, hb⟩
  have HB := Lib.hid hb
  clear hb
  go_wp2
  go_ret
  exact ⟨rfl, HB.out⟩
set_option maxRecDepth 100000 in
set_option maxHeartbeats 1000000 in
theorem rp_ix2 (g c : Nat) (hc : 1 ≤ c) (w : World) (h0 : w.cell? ⟨g, 0, none⟩ = some (.string ⟨#[108, 101, 110, 103, 116, 104]⟩)) (h1 : w.cell? ⟨g, 1, none⟩ = some (.string ⟨#[52]⟩)) :
    Calls Tryz.prog 175 #[.slice (some ⟨g, 0, none⟩) 1 c, .func (.func 133) #[] #[]] w fun e w' => e = .returned (.int .i64 0) ∧ Below w.heap.size w w' := by
  go_enter Tryz.func175, Tryz.ntmps175
  go_wp2
  refine wp_loop_rounds 2 ?_
  rw [rounds_succ]
  go_wp2_with fail
  refine (rp_fn2 w).mono ?_
  rintro e w1 ⟨rfl, hb⟩
  have HB := Lib.hid hb
  clear hb
  go_wp2
  go_ret
  exact ⟨rfl, HB.out⟩
theorem zero_fld (w : World) : (zeroValue 41).run Tryz.prog w = .ok (.agg #[.string ⟨#[]⟩, .string ⟨#[]⟩]) w := by kernel_rfl
theorem run_clear_fld (w : World) (ty : TypeId) (g c : Nat) (hc : ∀ j, j < 2 → (w.cell? ⟨g, 0 + j, none⟩).isSome = true) (hf : ∀ j, j < 2 → w.frozen? ⟨g, 0 + j, none⟩ = false) :
    (Builtin.clear_ #[22] ty #[.slice (some ⟨g, 0, none⟩) 1 c]).run Tryz.prog w = .ok (.tuple #[]) ((w.setCell ⟨g, 0, none⟩ (.string ⟨#[]⟩)).setCell ⟨g, 1, none⟩ (.string ⟨#[]⟩)) := by
  have hzc : (Builtin.zeroCells (Value.agg #[.string ⟨#[]⟩, .string ⟨#[]⟩]).cells 1).toList = [.string ⟨#[]⟩, .string ⟨#[]⟩] := by kernel_rfl
  have hst := run_storeCells_cells (P := Tryz.prog) g 0 [.string ⟨#[]⟩, .string ⟨#[]⟩] 0 w (by simpa using hc) (by simpa using hf) (by intro v hv; simp at hv; subst hv; rfl)
  simp only [Nat.add_zero] at hst
  simp [Builtin.clear_, run_underlying Tryz.underlying22, zero_fld, hzc, hst]
  rfl
/-- A row of one field is cleared: the others stay. -/
theorem fld_gone {w : World} {F : List Atom} {c g : Nat} {u v : Value} (h : Sep w (rowA 41 2 (.slice (some ⟨g, 0, none⟩) 1 c) 1 [u, v] :: F)) (a b : Value) : Sep ((w.setCell ⟨g, 0, none⟩ a).setCell ⟨g, 1, none⟩ b) F := by
  refine h.tail.kept (S := fun k => k = g) (((Keep.refl (fun k => k = g) w).setCell (p := ⟨g, 0, none⟩) (.inl rfl) a).setCell (p := ⟨g, 1, none⟩) (.inl rfl) b) ?_
  intro x hx k hk hkg
  have hkg : k = g := hkg
  subst hkg
  exact (List.pairwise_cons.1 h.apart).1 x hx k rfl hk
theorem fld_one_row {w : World} {L : List Atom} {i c : Nat} {A : Option Addr} (h : Sep w L) (hi : L[i]? = some (rowA 41 2 (.slice A 1 c) 1 lenVs)) :
    ∃ g, A = some ⟨g, 0, none⟩ ∧ g < w.heap.size ∧ 1 ≤ c ∧ w.cell? ⟨g, 0, none⟩ = some (.string ⟨#[108, 101, 110, 103, 116, 104]⟩) ∧ w.cell? ⟨g, 1, none⟩ = some (.string ⟨#[52]⟩) ∧ ∀ j, w.frozen? ⟨g, j, none⟩ = false := by
  obtain ⟨h1, h2⟩ := h.row hi
  rcases h2 with ⟨_, h3⟩ | ⟨g, cap, cur, hv, _, hg, hc, _, hcs, ht⟩
  · cases h3
  · cases hv
    have hk : ∀ j u, lenVs[j]? = some u → w.cell? ⟨g, j, none⟩ = some u := by
      intro j u hu
      rw [Blk.cell (t := 41) (cs := cur) hg j]
      rw [← ht] at hu
      have hj : j < 1 * 2 := by
        have := (List.getElem?_eq_some_iff.1 hu).1
        simp only [List.length_take] at this
        omega
      rw [List.getElem?_take, if_pos hj] at hu
      simpa using hu
    exact ⟨g, rfl, Blk.lt (t := 41) (cs := cur) hg, hc, hk 0 _ rfl, hk 1 _ rfl, fun j => Blk.frozen (t := 41) (cs := cur) hg j⟩
set_option maxRecDepth 100000 in
set_option maxHeartbeats 1000000 in
theorem rp_del {w : World} {F : List Atom} {c : Nat} {A : Option Addr} (h : Sep w (rowA 41 2 (.slice A 1 c) 1 lenVs :: F)) :
    Calls Tryz.prog 132 #[.slice A 1 c, .func (.func 133) #[] #[]] w fun e w' => ∃ A' c', e = .returned (.slice A' 0 c') ∧ Sep w' F := by
  obtain ⟨g, rfl, -, hc, h0, h1, -⟩ := fld_one_row h (i := 0) rfl
  have HI := Lib.hid (rp_ix2 g c hc w h0 h1)
  have H := Lib.hid h
  clear h h0 h1
  go_enter Tryz.func132, Tryz.ntmps132
  go_wp2_with fail
  refine HI.out.mono ?_
  rintro e w1 ⟨rfl, hb⟩
  have h2 := H.out.below hb
  obtain ⟨g', e', hlt, hc', k0, k1, kf⟩ := fld_one_row h2 (i := 0) rfl
  cases e'
  have HE := Lib.hid (fld_gone h2 (.string ⟨#[]⟩) (.string ⟨#[]⟩))
  have qc : ∀ ty, (Builtin.clear_ #[22] ty #[.slice (some ⟨g, 0, none⟩) 1 c]).run Tryz.prog w1 = .ok (.tuple #[]) ((w1.setCell ⟨g, 0, none⟩ (.string ⟨#[]⟩)).setCell ⟨g, 1, none⟩ (.string ⟨#[]⟩)) := fun ty =>
    run_clear_fld w1 ty g c (by intro j hj; rcases (by omega : j = 0 ∨ j = 1) with rfl | rfl <;> simp [k0, k1]) (by intro j hj; exact kf _)
  clear h2 H HI hb kf
  go_wp2
  refine wp_loop_rounds 1 ?_
  rw [rounds_succ]
  go_wp2
  go_ret
  exact ⟨_, _, rfl, HE.out⟩
set_option maxRecDepth 100000 in
set_option maxHeartbeats 1000000 in
theorem rp_clone {w : World} {F : List Atom} (h : Sep w F) (g c : Nat) (hg : g < w.heap.size) (h2 : w.cell? ⟨g, 2, none⟩ = some (.string ⟨#[108, 101, 110, 103, 116, 104]⟩)) (h3 : w.cell? ⟨g, 3, none⟩ = some (.string ⟨#[52]⟩)) :
    Calls Tryz.prog 123 #[.slice (some ⟨g, 2, none⟩) 1 c] w fun e w' => ∃ A' c', e = .returned (.slice A' 1 c') ∧ Sep w' (rowA 41 2 (.slice A' 1 c') 1 lenVs :: F) := by
  have ho := own_empty w 41 2
  have hb := (Below.refl w.heap.size w).alloc (Nat.le_refl _) (.cells #[] 41)
  have hr : Reads w w.heap.size 2 (some ⟨g, 2, none⟩) 1 lenVs := by
    refine ⟨rfl, fun _ => ⟨_, rfl, hg, fun j u hj => ?_⟩⟩
    match j, hj with
    | 0, hj => cases hj; exact h2
    | 1, hj => cases hj; exact h3
    | j + 2, hj => simp [lenVs] at hj
  have HO := Lib.hid ho
  have HB := Lib.hid hb
  have HR := Lib.hid ((hr.below hb).more hb.size)
  have H := Lib.hid h
  clear ho hb hr h h2 h3
  have q := Lib.run_eql_slice_nil (P := Tryz.prog) w 22 41 (some ⟨g, 2, none⟩) 1 c 0 0 Tryz.underlying22
  obtain ⟨i0, hi0, hz0, hz1, hz2⟩ := info_parts fld_info
  go_enter Tryz.func123, Tryz.ntmps123
  go_wp2_with (at_builtin; refine wpList_append_any _ rfl _ _ 22 rfl w.heap.size 41 i0 (.agg #[.string ⟨#[]⟩, .string ⟨#[]⟩]) 2 32 Tryz.underlying22 hi0 hz0 hz1 hz2 rfl (by decide) _ 0 [] rfl HO.out _ (some ⟨g, 2, none⟩) 1 c lenVs rfl HR.out (by intro u hu; simp [lenVs] at hu; rcases hu with rfl | rfl <;> rfl) (by unfold maxLen; omega) (by omega) (by simp) ?_; intro v' w' hown' hg _; have hb2 := below_append HB.out HO.out hg (by simp))
  go_ret
  obtain ⟨A', c', rfl⟩ := own_slice hown'
  exact ⟨A', c', rfl, H.out.newRow hb2 hown'⟩
end Go.Proofs.YtbgnggkgmeagkaaGreatDoor
