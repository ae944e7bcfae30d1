/-
  fields.Reply, client.Reply at the one answer. Condition: the table of powers.
  A gate hands a job out. No condition.
  The closed fact: tolltop.one returns true. Conditions: the tables of powers and of de Bruijn, MaxLen holds an int.
  What the row's list gives a walk: the table of powers, the table of de Bruijn; what the world's shape gives: MaxLen holds an int; a world that meets the list. Conditions: the list itself.
  Arguments opened further: a request. No condition.
-/
import Derived.Test.YtbgnggkgmeagkaaGreatDoorMTopLines35
import Derived.Deep.RegionHeld3
import Derived.Test.YtbgnggkgmeagkaaGreatDoorMTopLines33
import Derived.Test.YtbgnggkgmeagkaaGreatDoorMTopLinesTopB
import Derived.Test.YtbgnggkgmeagkaaGreatDoorMTopLines17
import Derived.Test.YtbgnggkgmeagkaaGreatDoorRows
import Derived.Test.YtbgnggkgmeagkaaGreatDoorMTopLines24
import Derived.Test.YtbgnggkgmeagkaaGreatDoorMTopLines22
import Derived.Lib.LaidU8
import Derived.Shelf.Vars
import Derived.Lay
import Derived.LaidHandle
import Derived.MakeChecks
set_option linter.unusedSimpArgs false
set_option linter.unusedVariables false
namespace Go.Proofs.YtbgnggkgmeagkaaGreatDoor
open Go.RowKit Go.Shelf
set_option maxRecDepth 100000 in
set_option maxHeartbeats 4000000 in
theorem fr_ok {w w0 : World} {F : List Atom} {io id ib c db : Nat} {D DB : Option Addr} (hP : Pow w0) (hio : F[io]? = some (oldA w0)) (hid : F[id]? = some (rowA 41 2 (.slice D 2 c) 2 (fvs repL))) (hib : F[ib]? = some (rowA 5 1 (.slice DB 4 db) 4 (bs bodyL))) (h : Sep w F) :
    Calls Tryz.prog 69 #[.slice D 2 c, .slice DB 4 db] w fun e w' => ∃ A fl BA ba, e = .returned (.tuple #[.agg #[.int .i64 200, .slice A 0 fl, .slice BA 4 ba], .nilIface]) ∧ Sep w' (rowA 5 1 (.slice BA 4 ba) 4 (bs bodyL) :: F) := by
  have h1 := h.newBlk 69 #[.int .i64 0, .slice none 0 0, .slice none 0 0]
  obtain ⟨W, hW⟩ : ∃ W, w.alloc (.cells #[.int .i64 0, .slice none 0 0, .slice none 0 0] 69) = W := ⟨_, rfl⟩
  rw [hW] at h1
  obtain ⟨g, rfl, hg, hc, k0, k1, k2, k3⟩ := rep_cells h1 (i := id + 1) hid
  obtain ⟨gb, rfl, -⟩ := h1.rowAt (i := ib + 1) hib (by decide)
  have HH := Lib.hid (rp_has g 2 (c - 1) (by omega) W k2 k3)
  have H1 := Lib.hid h1
  clear h h1
  go_enter Tryz.func69, Tryz.ntmps69
  go_wp2_with fail
  refine HH.out.mono ?_
  rintro e w1 ⟨rfl, hb⟩
  have h2 := H1.out.below hb
  obtain ⟨g', e', hg, hc, k0, k1, k2, k3⟩ := rep_cells h2 (i := id + 1) hid
  cases e'
  have H2 := Lib.hid h2
  clear hb h2 H1 HH hW
  go_wp2_with fail
  refine (atoi_200 _).mono ?_
  rintro e w2 ⟨rfl, hb⟩
  have h3 := H2.out.below hb
  have H3 := Lib.hid h3
  clear hb h3 H2 k0 k1 k2 k3 hg
  have HZ := Lib.hid (show ∀ w', Below w2.heap.size w2 w' → w'.cell? ⟨g, 1, none⟩ = some (.string ⟨#[50, 48, 48]⟩) ∧ Pow w' ∧ g < w'.heap.size from fun w' hb => by
    have h2 := H3.out.below hb
    obtain ⟨g', e', hg, hc, k0, k1, k2, k3⟩ := rep_cells h2 (i := id + 1) hid
    cases e'
    exact ⟨k1, hP.next (h2.old (i := io + 1) hio), hg⟩)
  go_wp2_with fail
  refine quiet_in (fun w' => Below w2.heap.size w2 w') (by kernel_rfl) (by kernel_rfl) ?_ fun hne => ?_
  · exact (Below.refl _ _).drew
  have z1 : ∀ x : WIn (fun w' => Below w2.heap.size w2 w'), x.w.cell? ⟨g, 1, none⟩ = some (.string ⟨#[50, 48, 48]⟩) := fun x => (HZ.out _ x.h).1
  repeat (first | go_big_quiet_skip | (go_big_quiet_want; go_big_quiet_op; go_big_quiet_on))
  go_big_quiet_want
  go_big_quiet_op
  refine ⟨_, fun x => quiet_call (itoa_200 _ (HZ.out _ x.h).2.1) (fun e w9 h9 => ⟨h9.1, x.h.trans (h9.2.mono x.h.size)⟩), ?_⟩
  go_big_quiet_on
  repeat (first | go_big_quiet_skip | (go_big_quiet_want; go_big_quiet_op; go_big_quiet_on))
  refine wpQuiet_nil ?_
  intro w9 hw9
  obtain ⟨x, rfl⟩ := hw9
  obtain ⟨w3, hb3⟩ := x
  simp only
  clear z1 hne HZ
  have h4 := H3.out.below hb3
  have HR := Lib.hid (reads_sep h4 (i := ib + 1) hib)
  have H4 := Lib.hid h4
  clear hb3 H3 h4
  go_wp2_with fail
  refine (clone_any (some ⟨gb, 0, none⟩) bodyL 4 db rfl (fun e => by cases e) (by decide) _ HR.out).mono ?_
  rintro e w4 ⟨BA, ba, rfl, hown, hb4⟩
  have hown : w4.ownsRow w3.heap.size 5 1 (.slice BA 4 ba) 4 (bs bodyL) := hown
  have h5 := (H4.out.newRow hb4 hown).newBlk 69 #[.int .i64 200, .slice none 0 0, .slice BA 4 ba]
  have hl5 : bodyL.length = 4 := rfl
  rw [hl5]
  obtain ⟨W5, hW5⟩ : ∃ W5, w4.alloc (.cells #[.int .i64 200, .slice none 0 0, .slice BA 4 ba] 69) = W5 := ⟨_, rfl⟩
  rw [hW5] at h5
  obtain ⟨g', e', hg, hc, k0, k1, k2, k3⟩ := rep_cells h5 (i := id + 3) hid
  cases e'
  have kR := h5.at_ (i := 0) rfl
  have H5 := Lib.hid h5
  clear hown hb4 h5 H4 HR hl5
  go_wp2_with fail
  refine (rp_clone H5.out g (c - 1) hg k2 k3).mono ?_
  rintro e w5 ⟨CA, cc, rfl, h6⟩
  have H6 := Lib.hid h6
  clear h6 H5 k0 k1 k2 k3 kR hW5 hg
  go_wp2_with fail
  refine (rp_del H6.out).mono ?_
  rintro e w6 ⟨FA, fl, rfl, h7⟩
  have kR := h7.at_ (i := 0) rfl
  have h8 := h7.set_ (i := 0) rfl 1 (.slice FA 0 fl)
  change Sep _ (blkA _ _ #[.int .i64 200, .slice FA 0 fl, .slice BA 4 ba] :: _) at h8
  have kS := h8.at_ (i := 0) rfl
  have kT := h8.at_ (i := 2) rfl
  have HC := Lib.hid (show Calls Tryz.prog 117 #[.agg #[.int .i64 200, .slice FA 0 fl, .slice BA 4 ba], .int .i64 0] _ fun e w' => e = .returned .nilIface ∧ Below _ _ w' from ct_ok 0 FA fl BA ba (w6.setCell ⟨w4.heap.size, 1, none⟩ (.slice FA 0 fl)))
  have H8 := Lib.hid h8
  clear h7 h8 H6
  go_wp2_with fail
  refine HC.out.mono ?_
  rintro e w7 ⟨rfl, hb7⟩
  have h9 := H8.out.below hb7
  have kR := h9.at_ (i := 0) rfl
  have kT := h9.at_ (i := 2) rfl
  have n1 := h9.ne_ (i := 0) (i' := 2) rfl rfl (by decide)
  have h10 := ((h9.set_ (i := 2) rfl 0 (.int .i64 200)).set_ (i := 2) rfl 1 (.slice FA 0 fl)).set_ (i := 2) rfl 2 (.slice BA 4 ba)
  change Sep _ (_ :: _ :: blkA _ _ #[.int .i64 200, .slice FA 0 fl, .slice BA 4 ba] :: _) at h10
  have H10 := Lib.hid h10
  clear hb7 h9 h10 H8 HC
  go_wp2
  refine bodyPost_ret (results_cell_tmp1 rfl _ _ w.heap.size _ _ _ rfl (H10.out.blk (i := 2) rfl) Tryz.underlying69 rfl rep_size) rfl ?_
  exact ⟨FA, fl, BA, ba, rfl, (H10.out.tail).drop_ 1⟩
set_option maxRecDepth 100000 in
set_option maxHeartbeats 4000000 in
theorem cl_reply {w w0 : World} {F : List Atom} {io kb C M X c db mc : Nat} {D DB : Option Addr} {ord inn out part q : Value} {win last nw : Int} {ends : Bool} (hP : Pow w0) (hio : F[io]? = some (oldA w0))
    (h : Sep w (blkA kb 126 (cliV C M ord inn out win last part 0 ends) :: mapA M (ent1 (.pointer (some ⟨X, 0, none⟩))) mc :: blkA X 130 (callV nw q false (.slice D 2 c) true (.slice DB 4 db) true) :: rowA 5 1 (.slice DB 4 db) 4 (bs bodyL) :: rowA 41 2 (.slice D 2 c) 2 (fvs repL) :: F)) :
    Calls Tryz.prog 25 #[.pointer (some ⟨kb, 0, none⟩), .int .i64 1] w fun e w' => ∃ A fl BA ba, e = .returned (.tuple #[.agg #[.int .i64 200, .slice A 0 fl, .slice BA 4 ba], .nilIface]) ∧ Sep w' (rowA 5 1 (.slice BA 4 ba) 4 (bs bodyL) :: F) := by
  have h1 := h.newBlk 69 #[.int .i64 0, .slice none 0 0, .slice none 0 0]
  obtain ⟨W, hW⟩ : ∃ W, w.alloc (.cells #[.int .i64 0, .slice none 0 0, .slice none 0 0] 69) = W := ⟨_, rfl⟩
  rw [hW] at h1
  have kK := h1.at_ (i := 1) rfl
  have kX := h1.at_ (i := 3) rfl
  have ql := h1.look_call (i := 2) rfl true
  have n1 := h1.ne_ (i := 0) (i' := 3) rfl rfl (by decide)
  have n2 := Ne.symm n1
  have H1 := Lib.hid h1
  have HF := Lib.hid (fr_ok (io := io + 6) hP hio (id := 5) rfl (ib := 4) rfl h1.drew)
  unfold cliV at kK
  unfold callV at kX
  clear h h1
  go_enter Tryz.func25, Tryz.ntmps25
  go_wp2_with fail
  go_region_held3 (fun w' => w'.cell? ⟨X, 3, none⟩ = some (.slice D 2 c) ∧ w'.cell? ⟨X, 5, none⟩ = some (.slice DB 4 db))
    (first | exact ⟨kX.1 3, kX.1 5⟩ | exact ⟨kX2.1 3, kX2.1 5⟩ | go_keep)
    (first
    | (go_at_call 69; refine HF.out.mono ?_; rintro e w2 ⟨FA, fl, BA, ba, rfl, h2⟩; have kR := h2.at_ (i := 1) rfl; have kX2 := h2.at_ (i := 4) rfl; unfold callV at kX2; have H2 := Lib.hid h2; clear h2))
  have h3 := ((H2.out.set_ (i := 1) rfl 0 (.int .i64 200)).set_ (i := 1) rfl 1 (.slice FA 0 fl)).set_ (i := 1) rfl 2 (.slice BA 4 ba)
  change Sep _ (_ :: blkA _ _ #[.int .i64 200, .slice FA 0 fl, .slice BA 4 ba] :: _) at h3
  have H3 := Lib.hid h3
  clear h3 H2 kR kX2 kX kK ql
  go_wp2
  refine bodyPost_ret (results_cell_tmp1 rfl _ _ w.heap.size _ _ _ rfl (H3.out.blk (i := 1) rfl) Tryz.underlying69 rfl rep_size) rfl ?_
  exact ⟨FA, fl, BA, ba, rfl, (((((H3.out.drop_ 1).drop_ 1).drop_ 1).drop_ 1).drop_ 1).drop_ 1⟩
end Go.Proofs.YtbgnggkgmeagkaaGreatDoor
namespace Go.Proofs.YtbgnggkgmeagkaaGreatDoor
open Go.RowKit Go.Shelf
theorem clone_39 {W : World} {ad : Addr} {jc : Nat} (h : Reads W W.heap.size 1 (some ad) askTL.length (bs askTL)) : Calls Tryz.prog 46 #[.slice (some ad) 39 jc] W fun e w' => ∃ A c, e = .returned (.slice A 39 c) ∧ w'.ownsRow W.heap.size 5 1 (.slice A 39 c) 39 (bs askTL) ∧ Below W.heap.size W w' := by
  have h1 := clone_any (some ad) askTL 39 jc askTL_ok.2.symm (fun e => by cases e) (by rw [askTL_ok.2]; decide) W h
  rw [askTL_ok.2] at h1
  exact h1
set_option maxRecDepth 100000 in
set_option maxHeartbeats 4000000 in
theorem ga_job {w : World} {F : List Atom} {ig ij ia g kb Li St CM JM jm jc : Nat} {ad : Addr} {R log : Value} {last : Int} (h : Sep w F) (hg : F[ig]? = some (blkA g 120 (gatV kb R Li St CM JM last log))) (hj : F[ij]? = some (mapA JM (ent1 (.agg #[.int .i64 1, .string ⟨#[97, 108, 108]⟩, .slice (some ad) 39 jc])) jm)) (ha : F[ia]? = some (bytA ad askTL)) :
    Calls Tryz.prog 20 #[.pointer (some ⟨g, 0, none⟩), .int .i64 1] w fun e w' => ∃ A c, e = .returned (.tuple #[.string ⟨#[97, 108, 108]⟩, .slice A 39 c, .nilIface]) ∧ Sep w' (rowA 5 1 (.slice A 39 c) 39 (bs askTL) :: F) := by
  have kg := h.at_ hg
  have ql := look_job h hj
  have h0 := h.newBlk 141 #[.int .i64 1, .string ⟨#[97, 108, 108]⟩, .slice (some ad) 39 jc]
  have kD := h0.at_ (i := 0) rfl
  have H0 := Lib.hid h0.drew
  have HB := Lib.hid (show Reads _ _ 1 (some ad) askTL.length (bs askTL) from h0.drew.byt (i := ia + 1) ha)
  unfold gatV at kg
  have d1 := kD.1 1
  have d2 := kD.1 2
  clear h h0
  go_enter Tryz.func20, Tryz.ntmps20
  go_upto_region 4 with fail
  obtain ⟨W, hW⟩ : ∃ W, w.alloc (.cells #[.int .i64 1, .string ⟨#[97, 108, 108]⟩, .slice (some ad) 39 jc] 141) = W := ⟨_, rfl⟩
  rw [hW] at H0 HB d1 d2 kD ⊢
  clear ql kg
  go_region_held3 (fun w' => w'.cell? ⟨w.heap.size, 1, none⟩ = some (.string ⟨#[97, 108, 108]⟩) ∧ w'.cell? ⟨w.heap.size, 2, none⟩ = some (.slice (some ad) 39 jc))
    (first | (with_reducible exact ⟨d1, d2⟩) | (with_reducible exact ⟨e1, e2⟩) | go_keep)
    (first
    | (go_at_call 46; refine (clone_39 HB.out).mono ?_; rintro e w4 ⟨A, c, rfl, hown, hb⟩; have h4 := H0.out.newRow hb hown; have kD4 := h4.at_ (i := 1) rfl; have e1 := kD4.1 1; have e2 := kD4.1 2; have H4 := Lib.hid h4; clear hown hb h4 kD4 d1 d2))
  all_goals
    go_wp2
    go_ret3
    exact ⟨A, c, rfl, H4.out.drop_ 1⟩
end Go.Proofs.YtbgnggkgmeagkaaGreatDoor
namespace Go.Proofs.YtbgnggkgmeagkaaGreatDoor
open Go.RowKit Go.Shelf
theorem sep_old (w : World) : Sep w [oldA w] := Sep.nil_.cons_ (a := oldA w) (Below.refl _ _) (fun _ hk => hk) (fun _ hb => by cases hb)
theorem cli_eq : setB ++ [0, 0, 8, 1, 4, 0, 0, 0, 1, 130, 67, 2, 47, 112, 68, 1, 104, 0, 0, 1, 0, 1, 0, 0, 0, 1, 120] = cliB := rfl
theorem sep_byte {w : World} {F : List Atom} (h : Sep w F) : Sep (markW (w.alloc (.cells #[.int .u8 120] 5)) w.heap.size) (bytA ⟨w.heap.size, 0, none⟩ [120] :: F) :=
  h.new (Below.mark ((Below.refl _ _).alloc (Nat.le_refl _) _) (Nat.le_refl _)) ⟨((Kc.refl _).mark w.heap.size).reads ((Blk.new w 5 #[.int .u8 120]).reads_ rfl), by rw [markW_size]; simp⟩ (by rintro k rfl; rw [markW_size]; simp)
set_option maxRecDepth 100000 in
set_option maxHeartbeats 16000000 in
theorem one_ok : OneOk := by
  intro w hP hM hD
  have H0 := Lib.hid (cli_new (sep_old w))
  go_enter Tryz.func5, Tryz.ntmps5
  go_wp2_with fail
  refine (show Calls _ _ _ _ _ from H0.out).mono ?_
  rintro e w1 ⟨kb, M, C, cg, ch, A, c, rfl, h1⟩
  have h1' := h1.newBlk 47 rtV.toArray
  have H1 := Lib.hid (gat_new w1.heap.size 1 (Nat.le_refl _) h1')
  clear H0 h1 h1'
  go_wp2_with fail
  refine (show Calls _ _ _ _ _ from H1.out).mono ?_
  rintro e w2 ⟨G, K, RA, rc, Li, LM, LM2, St, CM, JM, S, MS, M2, C2, gg, hh, A2, cc, rfl, h2⟩
  have hcv := conv_mark w2.heap.size 1 1 (w2.alloc (.cells #[.int .u8 120] 5))
  have h3 := sep_byte h2
  obtain ⟨W3, hW3⟩ : ∃ W3, markW (w2.alloc (.cells #[.int .u8 120] 5)) w2.heap.size = W3 := ⟨_, rfl⟩
  rw [hW3] at h3 hcv
  have hM3 := hM.next (h3.old (i := 24) rfl)
  have ho1 := Sep.ordN h3 25 [18, 19, 20, 21, 22, 23, 0, 1, 2, 3, 4, 5, 6, 7, 8, 9, 10, 11, 12, 13, 14, 15, 16, 17, 24] rfl (by decide)
  simp only [nthA, List.map_cons, List.map_nil, List.cons_append, List.nil_append, List.drop_succ_cons, List.drop_zero, List.drop_nil, List.append_nil] at ho1
  have H3 := Lib.hid (cl_ask (bc := 1) (by decide) hM3 rfl (ib := 0) rfl ho1)
  clear H1 h2 h3 hM3 hW3
  go_wp2_with fail
  refine (show Calls _ _ _ _ _ from H3.out).mono ?_
  rintro e w4 ⟨rfl, A4, c4, OA, oc, X, Q4, h4⟩
  simp only [Nat.reduceAdd] at h4
  rw [cli_eq] at h4
  have ho2 := Sep.ordN h4 26 [0, 1, 8, 13, 14, 10, 15, 16, 17, 18, 20, 21, 22, 23, 11, 12, 9, 2, 3, 4, 5, 6, 7, 19, 24, 25] rfl (by decide)
  simp only [nthA, List.map_cons, List.map_nil, List.cons_append, List.nil_append, List.drop_succ_cons, List.drop_zero, List.drop_nil, List.append_nil] at ho2
  have H4 := Lib.hid (cr_seven hP (io := 8) rfl ho2)
  clear H3 h4 hcv
  go_wp2_with fail
  refine (show Calls _ _ _ _ _ from H4.out).mono ?_
  rintro e w5 ⟨rfl, A5, c5, A6, c6, X2, Y, FA, fc, D, dc, fa, fc', ba, bc', ad, jc, h5⟩
  have H5 := Lib.hid (ga_job h5 (ig := 2) rfl (ij := 6) rfl (ia := 7) rfl)
  clear H4 h5
  go_wp2_with fail
  refine (show Calls _ _ _ _ _ from H5.out).mono ?_
  rintro e w6 ⟨JA, jc6, rfl, h6⟩
  have H6 := Lib.hid (ec_ok hP hD (io := 23) rfl (ia := 0) rfl h6)
  clear H5 h6
  go_wp2_with fail
  refine (show Calls _ _ _ _ _ from H6.out).mono ?_
  rintro e w7 ⟨b7, o7, c7, rfl, h45, h7⟩
  have ho3 := h7.nilRow 5 1
  have ho4 := Sep.ordN ho3 26 [5, 15, 23, 6, 0, 11, 12, 13, 14, 7, 8, 9, 1, 2, 3, 4, 10, 16, 17, 18, 19, 20, 21, 22, 24, 25] rfl (by decide)
  simp only [nthA, List.map_cons, List.map_nil, List.cons_append, List.nil_append, List.drop_succ_cons, List.drop_zero, List.drop_nil, List.append_nil] at ho4
  have H7 := Lib.hid (ga_done (n := 0) (xs := []) (by decide) hP (io := 13) rfl (fun W hW => hW.byt (i := 0) rfl) h45 ho4)
  clear H6 h7
  go_wp2_with fail
  refine (show Calls _ _ _ _ _ from H7.out).mono ?_
  rintro e w8 ⟨rfl, A8, c8, Q8, GA, gc, log, h8⟩
  simp only [Nat.zero_add, List.nil_append] at h8
  have ho5 := Sep.ordN h8 22 [10, 11, 15, 16, 17, 18, 0, 1, 13, 2, 3, 4, 5, 6, 7, 8, 9, 12, 14, 19, 20, 21] rfl (by decide)
  simp only [nthA, List.map_cons, List.map_nil, List.cons_append, List.nil_append, List.drop_succ_cons, List.drop_zero, List.drop_nil, List.append_nil] at ho5
  have H8 := Lib.hid (cr_three ho5)
  clear H7 h8
  go_wp2_with fail
  refine (show Calls _ _ _ _ _ from H8.out).mono ?_
  rintro e w9 ⟨rfl, A9, c9, D9, dc9, DB, db, P9, h9⟩
  have H9 := Lib.hid (cl_reply hP (io := 10) rfl h9)
  clear H8 h9
  go_wp2_with fail
  refine (show Calls _ _ _ _ _ from H9.out).mono ?_
  rintro e w10 ⟨FA10, fl, BA, bl, rfl, h10⟩
  have h11 := h10.newBlk 69 #[.int .i64 200, .slice FA10 0 fl, .slice BA 4 bl]
  obtain ⟨W11, hW11⟩ : ∃ W11, w10.alloc (.cells #[.int .i64 200, .slice FA10 0 fl, .slice BA 4 bl] 69) = W11 := ⟨_, rfl⟩
  rw [hW11] at h11
  have kR := h11.at_ (i := 0) rfl
  have k1 : (convert 23 9 (.slice BA 4 bl)).run Tryz.prog W11 = .ok (.string ⟨#[47, 112, 33, 120]⟩) W11 := run_str (l := bodyL) (show Reads W11 W11.heap.size 1 BA bodyL.length (bs bodyL) from reads_sep h11 (i := 1) rfl) bl
  have H11 := Lib.hid (h11.old (i := 12) rfl)
  clear H9 h10 h11
  go_wp2
  go_ret
  exact ⟨rfl, H11.out⟩
end Go.Proofs.YtbgnggkgmeagkaaGreatDoor
namespace Go.Proofs.YtbgnggkgmeagkaaGreatDoor
open Go.ChangeShapes Go.WideShapes Go.RowKit

theorem tab_of_laid {W : World} (h : laidMet Tryz.prog Rows.topLinesRow.laid W) {n : String} {k : IntKind} {zs : List Int} {g0 t0 e nn : Nat} (hm : (n, Lib.tabData k zs) ∈ Rows.topLinesRow.laid) (hg : Tryz.prog.globalNamed n = some g0) (hty : (Tryz.prog.globals[g0]?).map (·.type) = some t0)
    (ht : Tryz.prog.underlying t0 = some (.array nn e)) (he : Tryz.prog.underlying e = some (.int k)) (hce : Tryz.prog.cellsOf e = 1) (hct : Tryz.prog.cellsOf t0 = nn) : Lib.TabIs Tryz.prog W n k zs := by
  obtain ⟨g, t, cs, fuel, p, h1, h2, h3, h4⟩ := Lib.laidMet.reads h hm
  obtain rfl := Option.some.inj (hg.symm.trans h1)
  obtain rfl := Option.some.inj (hty.symm.trans h2)
  unfold Lib.TabIs
  rw [h3, ← Lib.cells_of_tab ht he hce hct h4]
theorem pow_of_laid {W : World} (h : laidMet Tryz.prog Rows.topLinesRow.laid W) : Pow W :=
  tab_of_laid h (n := "internal/strconv.uint64pow10") (k := .u64) (zs := Lib.pow10Tab) (g0 := 0) (t0 := 343) (e := 289) (nn := 20)
    (show ("internal/strconv.uint64pow10", Rows.laid_internal_strconv_uint64pow10) ∈ Rows.topLinesRow.laid by simp [Rows.topLinesRow]) (by kernel_rfl) (by kernel_rfl) (by kernel_rfl) (by kernel_rfl) (by kernel_rfl) (by kernel_rfl)
def deBTab : List Int := [0, 1, 56, 2, 57, 49, 28, 3, 61, 58, 42, 50, 38, 29, 17, 4, 62, 47, 59, 36, 45, 43, 51, 22, 53, 39, 33, 30, 24, 18, 12, 5, 63, 55, 48, 27, 60, 41, 37, 16, 46, 35, 44, 21, 52, 32, 23, 11, 54, 26, 40, 15, 34, 20, 31, 10, 25, 14, 19, 9, 13, 8, 7, 6]
theorem deB_of_laid {W : World} (h : laidMet Tryz.prog Rows.topLinesRow.laid W) : DeB W :=
  (tab_of_laid h (n := "math/bits.deBruijn64tab") (k := .u8) (zs := deBTab) (g0 := 7) (t0 := 398) (e := 5) (nn := 64)
    (show ("math/bits.deBruijn64tab", Rows.laid_math_bits_deBruijn64tab) ∈ Rows.topLinesRow.laid by simp [Rows.topLinesRow]) (by kernel_rfl) (by kernel_rfl) (by kernel_rfl) (by kernel_rfl) (by kernel_rfl) (by kernel_rfl)).cell (by kernel_rfl) 15 (by decide)
theorem maxL_of_shape {W : World} (h : W.ShapedOpen Tryz.prog) : MaxL W :=
  cell_of_shapedOpen_int (g := 1) (t := 3) (zero := #[.int .i64 0]) h (of_decide_eq_true (by kernel_rfl)) (by kernel_rfl) rfl (by kernel_rfl) (by kernel_rfl) Tryz.underlying3
noncomputable def laidWorld (os : Os) : World := World.laidAll Tryz.prog os Rows.topLinesRow.laid
theorem laidWorld_met (os : Os) (args : Array Value) : laidMetH Tryz.prog Rows.topLinesRow.laid ((laidWorld os).forCall (fun _ _ => 0) ⟨#[], args, []⟩).memory := by
  rw [Go.MakeChecks.laidMetH_plain _ _ _ (by kernel_rfl)]
  exact laidMet_laidAll _ (by kernel_rfl) (by kernel_rfl)
theorem laidWorld_shaped (os : Os) (args : Array Value) : ((laidWorld os).forCall (fun _ _ => 0) ⟨#[], args, []⟩).Shaped Tryz.prog := World.shaped_of_ZipB (by kernel_rfl) (by kernel_rfl)
end Go.Proofs.YtbgnggkgmeagkaaGreatDoor
namespace Go.Proofs.YtbgnggkgmeagkaaGreatDoor
open Go.ChangeShapes Go.WideShapes Go.ChangeAt Go.RowKit Go.Deep
open Go.ChangeMaps (open_string shut_string)

section
variable {H : Type} {enc : TypeId × Value → H} {W : World}
theorem wok_field {t u : TypeId} {fs : Array Field} {ps : List (DataW H)} {j : Nat} {d : DataW H} (h : Wok t (.agg ps)) (ht : Tryz.prog.underlying t = some (.struct fs)) (hj : (fs.toList.map (·.type))[j]? = some u) (hd : ps[j]? = some d) : Wok u d := fun n hn => by
  refine h n ?_
  simp only [DataW.weights, ht]
  exact DataW.weights_mem_each hj hd n hn
set_option maxRecDepth 100000 in
theorem bytes_of_cells {fuel : Nat} {cs : List Value} {x : DataW H × List MemPlace} (hf : DataW.trod enc Tryz.prog W 0 (fun _ => true) true fuel 23 cs = some x) (hw : Wok 23 x.1) :
    ∃ A l c, cs = [.slice A l.length c] ∧ l.length ≤ c ∧ c ≤ 140737488351232 ∧ Reads W W.heap.size 1 A l.length (bs l) := by
  rcases open_ints Tryz.underlying23 Tryz.underlying5 cells_u8 hf with ⟨rfl, _⟩ | ⟨x, l, c, zs, rfl, _, hl, hm, hz, rfl, hcell, hwz⟩
  · exact ⟨none, [], 0, rfl, Nat.le_refl _, Nat.zero_le _, Reads.none_⟩
  · simp at hz
    obtain ⟨l2, hl2, hr⟩ := reads_of_cells (n := l) (by omega) hcell hwz
    have hr2 := (wok_slice hw Tryz.underlying23).1
    rw [bytes_u8] at hr2
    simp only [lits, List.length_map, List.length_take, List.length_drop, reachBytes] at hr2
    exact ⟨some x, l2, c, by rw [hl2], by omega, by omega, by rw [hl2]; exact hr⟩
theorem array5 {cs : Array Value} (h : cs.size = 5) : ∃ a b c d e, cs = #[a, b, c, d, e] := by
  obtain ⟨l⟩ := cs
  simp only [List.size_toArray] at h
  match l, h with
  | [a, b, c, d, e], _ => exact ⟨a, b, c, d, e, rfl⟩
theorem open_agg5 {P : Program} {w : World} {base : Nat} {spare : Nat → Bool} {held : Bool} {r : Reach} {b0 : Nat} {t : TypeId} {f0 f1 f2 f3 f4 : Field} {v : Value} {d : DataW H} {p : List MemPlace} (hs : P.underlying t = some (.struct #[f0, f1, f2, f3, f4])) (hone : oneCellFields P #[f0, f1, f2, f3, f4] = true) (hC : P.cellsOf t = 5)
    (hv : Value.okWide P w r b0 t v) (h : DataW.Trod enc P w base spare held t v d p) :
    ∃ (v0 v1 v2 v3 v4 : Value) (y0 y1 y2 y3 y4 : DataW H × List MemPlace) (n : Nat), v = .agg #[v0, v1, v2, v3, v4] ∧ d = .agg [y0.1, y1.1, y2.1, y3.1, y4.1] ∧
      DataW.trod enc P w base spare held n f0.type [v0] = some y0 ∧ DataW.trod enc P w base spare held n f1.type [v1] = some y1 ∧ DataW.trod enc P w base spare held n f2.type [v2] = some y2 ∧ DataW.trod enc P w base spare held n f3.type [v3] = some y3 ∧ DataW.trod enc P w base spare held n f4.type [v4] = some y4 := by
  obtain ⟨cs, rfl, hsz⟩ := okWide_struct hs hv
  obtain ⟨c0, c1, c2, c3, c4, rfl⟩ := array5 (hsz.trans hC)
  obtain ⟨fuel, hf⟩ := h
  obtain ⟨xs, n, _, hx, hl, hlen, hff⟩ := DataW.trod_struct hs hf
  match xs, hlen with
  | [y0, y1, y2, y3, y4], _ =>
    obtain ⟨o0, k0⟩ := hone_of hone 0 f0 rfl
    obtain ⟨o1, k1⟩ := hone_of hone 1 f1 rfl
    obtain ⟨o2, k2⟩ := hone_of hone 2 f2 rfl
    obtain ⟨o3, k3⟩ := hone_of hone 3 f3 rfl
    obtain ⟨o4, k4⟩ := hone_of hone 4 f4 rfl
    simp only [Prod.mk.injEq] at hx
    have h0 := hff 0 f0 rfl
    have h1 := hff 1 f1 rfl
    have h2 := hff 2 f2 rfl
    have h3 := hff 3 f3 rfl
    have h4 := hff 4 f4 rfl
    exact ⟨c0, c1, c2, c3, c4, y0, y1, y2, y3, y4, n, rfl, by simpa using hx.1, by simpa [Value.cells, o0, k0] using h0, by simpa [Value.cells, o1, k1] using h1, by simpa [Value.cells, o2, k2] using h2, by simpa [Value.cells, o3, k3] using h3, by simpa [Value.cells, o4, k4] using h4⟩
set_option maxRecDepth 100000 in
theorem open_req {ts : List TypeId} {ds : List (DataW H)} {base j : Nat} {v : Value} {d : DataW H} {p : List MemPlace} (hval : Value.okWide Tryz.prog W .any base 25 v) (h : DataW.Trod enc Tryz.prog W 0 (fun _ => true) true 25 v d p)
    (hsz : (DataW.weightsEach Tryz.prog ts ds).all (· ≤ reachBytes) = true) (ht : ts[j]? = some 25) (hd : ds[j]? = some d) :
    ∃ m p h FA fs fc BA b bc, v = .agg (reqV m p h FA fs.length fc BA b.length bc) ∧ m.length ≤ 140737488351232 ∧ p.length ≤ 140737488351232 ∧ h.length ≤ 140737488351232 ∧ (∀ f ∈ fs, fOk f) ∧ fs.length ≤ fc ∧ fc * 32 ≤ 140737488351232 ∧ Reads W W.heap.size 2 FA fs.length (fvs fs) ∧ b.length ≤ bc ∧ bc ≤ 140737488351232 ∧ Reads W W.heap.size 1 BA b.length (bs b) := by
  obtain ⟨f0, f1, f2, f3, f4, he, hone, t0, t1, t2, t3, t4⟩ : ∃ f0 f1 f2 f3 f4 : Field, Tryz.prog.underlying 25 = some (.struct #[f0, f1, f2, f3, f4]) ∧ oneCellFields Tryz.prog #[f0, f1, f2, f3, f4] = true ∧ f0.type = 9 ∧ f1.type = 9 ∧ f2.type = 9 ∧ f3.type = 22 ∧ f4.type = 23 :=
    ⟨_, _, _, _, _, Tryz.underlying25, by kernel_rfl, rfl, rfl, rfl, rfl, rfl⟩
  obtain ⟨v0, v1, v2, v3, v4, y0, y1, y2, y3, y4, n, rfl, rfl, h0, h1, h2, h3, h4⟩ := open_agg5 he hone (by kernel_rfl) hval h
  rw [t0] at h0
  rw [t1] at h1
  rw [t2] at h2
  rw [t3] at h3
  rw [t4] at h4
  have hw := wok_arg hsz ht hd
  have w0 : Wok 9 y0.1 := wok_field hw he (j := 0) (by simp [t0]) rfl
  have w1 : Wok 9 y1.1 := wok_field hw he (j := 1) (by simp [t1]) rfl
  have w2 : Wok 9 y2.1 := wok_field hw he (j := 2) (by simp [t2]) rfl
  have w3 : Wok 22 y3.1 := wok_field hw he (j := 3) (by simp [t3]) rfl
  have w4 : Wok 23 y4.1 := wok_field hw he (j := 4) (by simp [t4]) rfl
  obtain ⟨s0, e0, d0⟩ := str_of_cell h0
  obtain ⟨s1, e1, d1⟩ := str_of_cell h1
  obtain ⟨s2, e2, d2⟩ := str_of_cell h2
  rw [d0] at w0
  rw [d1] at w1
  rw [d2] at w2
  obtain ⟨FA, fs, fc, e3, q1, q2, q3, q4⟩ := fields_of_cells h3 w3
  obtain ⟨BA, b, bc, e4, q5, q6, q7⟩ := bytes_of_cells h4 w4
  simp only [List.cons.injEq, and_true] at e3 e4
  subst e0 e1 e2 e3 e4
  exact ⟨s0, s1, s2, FA, fs, fc, BA, b, bc, rfl, wok_str w0, wok_str w1, wok_str w2, q3, q1, q2, q4, q5, q6, q7⟩
end
end Go.Proofs.YtbgnggkgmeagkaaGreatDoor
