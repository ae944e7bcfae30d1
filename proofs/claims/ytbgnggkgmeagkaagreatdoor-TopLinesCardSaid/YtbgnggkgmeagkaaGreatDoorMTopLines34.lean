/-
  tolltop.feed of the answer to what was set. Condition: it is the one of the closed run.
  A client hears a frame of a head, a frame of a body. Condition: its call is the first.
  client.Feed at the pieces of the closed run. Conditions: the bytes are those of the run.
  tolltop.feed, tolltop.back at the bytes of the closed run. Conditions: they are those of the run; the table of powers.
-/
import Derived.Test.YtbgnggkgmeagkaaGreatDoorMTopLinesGfeed3
import Derived.Test.YtbgnggkgmeagkaaGreatDoorMTopLines31
import Derived.Test.YtbgnggkgmeagkaaGreatDoorMTopLines29
import Derived.Test.YtbgnggkgmeagkaaGreatDoorMTopLines27
import Derived.Test.YtbgnggkgmeagkaaGreatDoorMTopLines32
set_option linter.unusedSimpArgs false
set_option linter.unusedVariables false
namespace Go.Proofs.YtbgnggkgmeagkaaGreatDoor
open Go.RowKit Go.Shelf
set_option maxRecDepth 100000 in
set_option maxHeartbeats 4000000 in
theorem fd_ans {w : World} {F : List Atom} {ib b c g kb C S M Li St CM JM c0 : Nat} {A0 : Option Addr} {Rt log ord out evs : Value} {iw ow un last : Int} (hi : F[ib]? = some (rowA 5 1 (.slice (some ⟨b, 0, none⟩) 9 c) 9 (bs setEB)))
    (h : Sep w (blkA g 120 (gatV kb Rt Li St CM JM last log) :: blkA kb 200 (conV C S M ord (.slice A0 0 c0) out iw ow un true (.pointer none) evs) :: rowA 5 1 (.slice A0 0 c0) 0 [] :: F)) :
    Calls Tryz.prog 17 #[.pointer (some ⟨g, 0, none⟩), .slice (some ⟨b, 0, none⟩) 9 c, .int .i64 7] w fun e w' => e = .returned (.bool true) ∧ ∃ A' c', Sep w' (blkA g 120 (gatV kb Rt Li St CM JM last log) :: blkA kb 200 (conV C S M ord (.slice A' 0 c') out iw ow un true (.pointer none) (.slice none 0 0)) :: rowA 5 1 (.slice A' 0 c') 0 [] :: F) := by
  have hc := h.cap (i := ib + 3) hi
  have H := Lib.hid (gf_short (n := 0) (k := 7) (bc := c) (xs := []) (ys := [0, 0, 0, 4, 1, 0, 0]) rfl rfl (by decide) (piece_in hi 0 7 _ rfl (by decide) (by decide)) (by kernel_rfl) h)
  have hc7 : ¬ (c = 7) := by omega
  have hc7' : 7 ≤ c := by omega
  clear h
  go_enter Tryz.func17, Tryz.ntmps17
  go_wp2_with fail
  refine wp_loop_rounds 3 ?_
  rw [rounds_succ]
  go_wp2_with fail
  refine (show Calls _ _ _ _ _ from H.out).mono ?_
  rintro e w1 ⟨rfl, A1, c1, h1⟩
  have H1 := Lib.hid (fun bc => gf_ans (n := 7) (k := 2) (bc := bc) (xs := [0, 0, 0, 4, 1, 0, 0]) (ys := [0, 0]) [] 9 rfl rfl (by decide) (piece_in hi 7 2 _ rfl (by decide) (by decide)) (by kernel_rfl) (by decide) (by decide) rfl (z := 0) rfl (by kernel_rfl) h1)
  clear h1 H
  go_wp2_with fail
  rw [rounds_succ]
  go_wp2_with fail
  refine (show Calls _ _ _ _ _ from H1.out _).mono ?_
  rintro e w2 ⟨rfl, A2, c2, h2⟩
  have H2 := Lib.hid h2
  clear h2 H1
  go_wp2_with fail
  all_goals
    rw [rounds_succ]
    go_wp2
    go_ret
    exact ⟨rfl, A2, c2, H2.out⟩
end Go.Proofs.YtbgnggkgmeagkaaGreatDoor
namespace Go.Proofs.YtbgnggkgmeagkaaGreatDoor
open Go.RowKit Go.Shelf
set_option maxRecDepth 100000 in
set_option maxHeartbeats 4000000 in
theorem cl_hear_head {w : World} {F : List Atom} {kb C M X gg hh mc bc : Nat} {BA : Option Addr} {ord inn out part q : Value} {win last nw : Int} {ends : Bool}
    (h : Sep w (rowA 5 1 (.slice BA 4 bc) 4 (bs rblkL) :: blkA kb 126 (cliV C M ord inn out win last part 0 ends) :: mapA M (ent1 (.pointer (some ⟨X, 0, none⟩))) mc :: blkA X 130 (callV nw q false (.slice none 0 0) false (.slice none 0 0) false) :: blkA C 93 (coderV gg hh) :: tabA hh none 0 [] 4096 :: F)) :
    Calls Tryz.prog 171 #[.pointer (some ⟨kb, 0, none⟩), .agg #[.int .i64 1, .int .i64 4, .int .i64 1, .slice BA 4 bc]] w fun e w' => e = .returned (.bool true) ∧ ∃ D dc P, Sep w' (blkA kb 126 (cliV C M ord inn out win last P 0 false) :: mapA M (ent1 (.pointer (some ⟨X, 0, none⟩))) mc ::
      blkA X 130 (callV nw q false (.slice D 2 dc) true (.slice none 0 0) false) :: rowA 41 2 (.slice D 2 dc) 2 (fvs repL) :: F) := by
  have h1 := h.newBlk 134 #[.int .i64 1, .int .i64 4, .int .i64 1, .slice BA 4 bc]
  have kX := h1.at_ (i := 0) rfl
  have kK := h1.at_ (i := 2) rfl
  have H1 := Lib.hid h1
  unfold cliV at kK
  clear h h1
  go_enter Tryz.func171, Tryz.ntmps171
  go_wp2
  go_quiet (fail)
  obtain ⟨w2, hw2⟩ : ∃ w2, (w.alloc (.cells #[.int .i64 1, .int .i64 4, .int .i64 1, .slice BA 4 bc] 134)).drewN nq = w2 := ⟨_, rfl⟩
  have h2 := H1.out.drewN nq
  rw [hw2] at h2 ⊢
  clear kX kK H1 hw2
  have kX := h2.at_ (i := 0) rfl
  have kK := h2.at_ (i := 2) rfl
  have H2 := Lib.hid h2
  unfold cliV at kK
  clear h2
  go_wp2_with (first
    | (go_at_call 213; refine (chk_str 1 4 BA 4 bc (.inr rfl) w2).mono ?_; rintro e w3 ⟨rfl, hb3⟩; have h3 := H2.out.below hb3; have kX3 := h3.at_ (i := 0) rfl; have kK3 := h3.at_ (i := 2) rfl; have H3 := Lib.hid h3; unfold cliV at kK3; clear h3 hb3 kX kK)
    | (go_at_call 245; refine (cl_header (w := w3) H3.out.tail).mono ?_; rintro e w4 ⟨rfl, D, dc, P, h4⟩; have H4 := Lib.hid h4; clear h4))
  go_ret
  exact ⟨rfl, D, dc, P, H4.out⟩
set_option maxRecDepth 100000 in
set_option maxHeartbeats 4000000 in
theorem cl_hear_data {w : World} {F : List Atom} {kb C M X n c mc bc : Nat} {A BA : Option Addr} {ord inn part q rep : Value} {xs : List UInt8} {win last nw : Int} {ends : Bool} (hn : n ≤ 1000)
    (h : Sep w (rowA 5 1 (.slice BA 4 bc) 4 (bs bodyL) :: blkA kb 126 (cliV C M ord inn (.slice A n c) win last part 0 ends) :: rowA 5 1 (.slice A n c) n (bs xs) :: mapA M (ent1 (.pointer (some ⟨X, 0, none⟩))) mc :: blkA X 130 (callV nw q false rep true (.slice none 0 0) false) :: F)) :
    Calls Tryz.prog 171 #[.pointer (some ⟨kb, 0, none⟩), .agg #[.int .i64 0, .int .i64 1, .int .i64 1, .slice BA 4 bc]] w fun e w' => e = .returned (.bool true) ∧ ∃ A' c' D dc, Sep w' (blkA kb 126 (cliV C M ord inn (.slice A' (n + 13) c') win last part 0 ends) :: rowA 5 1 (.slice A' (n + 13) c') (n + 13) (bs (xs ++ wideB)) ::
      mapA M (ent1 (.pointer (some ⟨X, 0, none⟩))) mc :: blkA X 130 (callV nw q false rep true (.slice D 4 dc) true) :: rowA 5 1 (.slice D 4 dc) 4 (bs bodyL) :: F) := by
  have h1 := h.newBlk 134 #[.int .i64 0, .int .i64 1, .int .i64 1, .slice BA 4 bc]
  have kX := h1.at_ (i := 0) rfl
  have kK := h1.at_ (i := 2) rfl
  have H1 := Lib.hid h1
  unfold cliV at kK
  clear h h1
  go_enter Tryz.func171, Tryz.ntmps171
  go_wp2
  go_quiet (fail)
  obtain ⟨w2, hw2⟩ : ∃ w2, (w.alloc (.cells #[.int .i64 0, .int .i64 1, .int .i64 1, .slice BA 4 bc] 134)).drewN nq = w2 := ⟨_, rfl⟩
  have h2 := H1.out.drewN nq
  rw [hw2] at h2 ⊢
  clear kX kK H1 hw2
  have kX := h2.at_ (i := 0) rfl
  have kK := h2.at_ (i := 2) rfl
  have H2 := Lib.hid h2
  unfold cliV at kK
  clear h2
  go_wp2_with (first
    | (go_at_call 213; refine (chk_str 0 1 BA 4 bc (.inl rfl) w2).mono ?_; rintro e w3 ⟨rfl, hb3⟩; have h3 := H2.out.below hb3; have kX3 := h3.at_ (i := 0) rfl; have kK3 := h3.at_ (i := 2) rfl; have H3 := Lib.hid h3; unfold cliV at kK3; clear h3 hb3 kX kK)
    | (go_at_call 246; refine (cl_data (w := w3) hn H3.out.tail).mono ?_; rintro e w4 ⟨rfl, A4, c4, D, dc, h4⟩; have H4 := Lib.hid h4; clear h4))
  go_ret
  exact ⟨rfl, A4, c4, D, dc, H4.out⟩
end Go.Proofs.YtbgnggkgmeagkaaGreatDoor
namespace Go.Proofs.YtbgnggkgmeagkaaGreatDoor
open Go.RowKit Go.Shelf
theorem bf_set {w : World} {F : List Atom} {kb C M n c k bc z oc : Nat} {A B OA : Option Addr} {part : Value} {xs ys : List UInt8} {win last : Int} {ends : Bool} (zs : List UInt8) (u : Nat)
    (hn : n = xs.length) (hk : k = ys.length) (hs : n + k ≤ 1000) (hB : ∀ w', Sep w' F → Reads w' w'.heap.size 1 B k (bs ys)) (hS : frmR (xs ++ ys) = (⟨4, 0, 0, []⟩, u, 0)) (hu : u ≤ n + k) (hu0 : 0 < n + k) (hz : (xs ++ ys).drop u = zs) (hzl : z = zs.length) (hS2 : frmR zs = (frm0, 0, 8))
    (h : Sep w (blkA kb 126 (cliV C M (.slice OA 0 oc) (.slice A n c) (.slice none 0 0) win last part 0 ends) :: rowA 5 1 (.slice A n c) n (bs xs) :: F)) :
    Calls Tryz.prog 116 #[.pointer (some ⟨kb, 0, none⟩), .slice B k bc] w fun e w' => e = .returned .nilIface ∧ ∃ A' c' QA qc, Sep w' (blkA kb 126 (cliV C M (.slice OA 0 oc) (.slice A' z c') (.slice QA 9 qc) win last part 0 ends) :: rowA 5 1 (.slice A' z c') z (bs zs) :: rowA 5 1 (.slice QA 9 qc) 9 (bs setEB) :: F) := by
  refine (cf_one ⟨4, 0, 0, []⟩ zs hn hk hs hB hS hu hu0 hz hzl hS2 (fun ord' out' part' win' last' on' ends' G => ∃ QA qc, ord' = .slice OA 0 oc ∧ out' = .slice QA 9 qc ∧ part' = part ∧ win' = win ∧ last' = last ∧ on' = 0 ∧ ends' = ends ∧ G = rowA 5 1 (.slice QA 9 qc) 9 (bs setEB) :: F) ?_ h).mono ?_
  · intro w1 A1 BA c1 b1 h1
    have h2 := ((h1.tail).nilRow 5 1).front 1 rfl
    refine (cl_hear_set (n := 0) (xs := []) (by decide) h2).mono ?_
    rintro e w' ⟨rfl, A', c', h'⟩
    exact ⟨rfl, _, _, _, _, _, _, _, _, ⟨A', c', rfl, rfl, rfl, rfl, rfl, rfl, rfl, rfl⟩, (h'.front 2 rfl).front 1 rfl⟩
  · rintro e w' ⟨rfl, _, _, _, _, _, _, _, _, A', c', ⟨QA, qc, rfl, rfl, rfl, rfl, rfl, rfl, rfl, rfl⟩, h'⟩
    exact ⟨rfl, A', c', QA, qc, h'⟩
theorem bf_ans {w : World} {F : List Atom} {kb C M n c k bc z : Nat} {A B : Option Addr} {ord out part : Value} {xs ys : List UInt8} {win last : Int} {ends : Bool} (zs : List UInt8) (u : Nat)
    (hn : n = xs.length) (hk : k = ys.length) (hs : n + k ≤ 1000) (hB : ∀ w', Sep w' F → Reads w' w'.heap.size 1 B k (bs ys)) (hS : frmR (xs ++ ys) = (⟨4, 1, 0, []⟩, u, 0)) (hu : u ≤ n + k) (hu0 : 0 < n + k) (hz : (xs ++ ys).drop u = zs) (hzl : z = zs.length) (hS2 : frmR zs = (frm0, 0, 8))
    (h : Sep w (blkA kb 126 (cliV C M ord (.slice A n c) out win last part 0 ends) :: rowA 5 1 (.slice A n c) n (bs xs) :: F)) :
    Calls Tryz.prog 116 #[.pointer (some ⟨kb, 0, none⟩), .slice B k bc] w fun e w' => e = .returned .nilIface ∧ ∃ A' c', Sep w' (blkA kb 126 (cliV C M ord (.slice A' z c') out win last part 0 ends) :: rowA 5 1 (.slice A' z c') z (bs zs) :: F) := by
  refine (cf_one ⟨4, 1, 0, []⟩ zs hn hk hs hB hS hu hu0 hz hzl hS2 (fun ord' out' part' win' last' on' ends' G => ord' = ord ∧ out' = out ∧ part' = part ∧ win' = win ∧ last' = last ∧ on' = 0 ∧ ends' = ends ∧ G = F) ?_ h).mono ?_
  · intro w1 A1 BA c1 b1 h1
    refine (cl_hear_ans h1.tail).mono ?_
    rintro e w' ⟨rfl, h'⟩
    exact ⟨rfl, _, _, _, _, _, _, _, _, ⟨rfl, rfl, rfl, rfl, rfl, rfl, rfl, rfl⟩, h'⟩
  · rintro e w' ⟨rfl, _, _, _, _, _, _, _, _, A', c', ⟨rfl, rfl, rfl, rfl, rfl, rfl, rfl, rfl⟩, h'⟩
    exact ⟨rfl, A', c', h'⟩
theorem bf_head {w : World} {F : List Atom} {kb C M X gg hh mc n c k bc z : Nat} {A B : Option Addr} {ord out part q : Value} {xs ys : List UInt8} {win last nw : Int} {ends : Bool} (zs : List UInt8) (u : Nat)
    (hn : n = xs.length) (hk : k = ys.length) (hs : n + k ≤ 1000) (hB : ∀ w', Sep w' F → Reads w' w'.heap.size 1 B k (bs ys)) (hS : frmR (xs ++ ys) = (⟨1, 4, 1, rblkL⟩, u, 0)) (hu : u ≤ n + k) (hu0 : 0 < n + k) (hz : (xs ++ ys).drop u = zs) (hzl : z = zs.length) (hS2 : frmR zs = (frm0, 0, 8))
    (h : Sep w (blkA kb 126 (cliV C M ord (.slice A n c) out win last part 0 ends) :: rowA 5 1 (.slice A n c) n (bs xs) :: mapA M (ent1 (.pointer (some ⟨X, 0, none⟩))) mc :: blkA X 130 (callV nw q false (.slice none 0 0) false (.slice none 0 0) false) :: blkA C 93 (coderV gg hh) :: tabA hh none 0 [] 4096 :: F)) :
    Calls Tryz.prog 116 #[.pointer (some ⟨kb, 0, none⟩), .slice B k bc] w fun e w' => e = .returned .nilIface ∧ ∃ A' c' D dc P', Sep w' (blkA kb 126 (cliV C M ord (.slice A' z c') out win last P' 0 false) :: rowA 5 1 (.slice A' z c') z (bs zs) :: mapA M (ent1 (.pointer (some ⟨X, 0, none⟩))) mc :: blkA X 130 (callV nw q false (.slice D 2 dc) true (.slice none 0 0) false) :: rowA 41 2 (.slice D 2 dc) 2 (fvs repL) :: F) := by
  refine (cf_one ⟨1, 4, 1, rblkL⟩ zs hn hk hs (fun w' hw => hB w' hw.tail.tail.tail.tail) hS hu hu0 hz hzl hS2 (fun ord' out' part' win' last' on' ends' G => ∃ D dc, ord' = ord ∧ out' = out ∧ win' = win ∧ last' = last ∧ on' = 0 ∧ ends' = false ∧ G = mapA M (ent1 (.pointer (some ⟨X, 0, none⟩))) mc :: blkA X 130 (callV nw q false (.slice D 2 dc) true (.slice none 0 0) false) :: rowA 41 2 (.slice D 2 dc) 2 (fvs repL) :: F) ?_ h).mono ?_
  · intro w1 A1 BA c1 b1 h1
    have h2 := ((((((h1.front 6 rfl).front 6 rfl).front 6 rfl).front 6 rfl).front 5 rfl).front 5 rfl)
    refine (cl_hear_head h2).mono ?_
    rintro e w' ⟨rfl, D, dc, P, h'⟩
    exact ⟨rfl, _, _, _, _, _, _, _, _, ⟨D, dc, rfl, rfl, rfl, rfl, rfl, rfl, rfl⟩, ((h'.front 4 rfl).front 1 rfl)⟩
  · rintro e w' ⟨rfl, _, _, P', _, _, _, _, _, A', c', ⟨D, dc, rfl, rfl, rfl, rfl, rfl, rfl, rfl⟩, h'⟩
    exact ⟨rfl, A', c', D, dc, P', h'⟩
theorem bf_data {w : World} {F : List Atom} {kb C M X mc n c k bc z : Nat} {A B : Option Addr} {ord part q rep : Value} {xs ys : List UInt8} {win last nw : Int} {ends : Bool} (zs : List UInt8) (u : Nat)
    (hn : n = xs.length) (hk : k = ys.length) (hs : n + k ≤ 1000) (hB : ∀ w', Sep w' F → Reads w' w'.heap.size 1 B k (bs ys)) (hS : frmR (xs ++ ys) = (⟨0, 1, 1, bodyL⟩, u, 0)) (hu : u ≤ n + k) (hu0 : 0 < n + k) (hz : (xs ++ ys).drop u = zs) (hzl : z = zs.length) (hS2 : frmR zs = (frm0, 0, 8))
    (h : Sep w (blkA kb 126 (cliV C M ord (.slice A n c) (.slice none 0 0) win last part 0 ends) :: rowA 5 1 (.slice A n c) n (bs xs) :: mapA M (ent1 (.pointer (some ⟨X, 0, none⟩))) mc :: blkA X 130 (callV nw q false rep true (.slice none 0 0) false) :: F)) :
    Calls Tryz.prog 116 #[.pointer (some ⟨kb, 0, none⟩), .slice B k bc] w fun e w' => e = .returned .nilIface ∧ ∃ A' c' D dc QA qc, Sep w' (blkA kb 126 (cliV C M ord (.slice A' z c') (.slice QA 13 qc) win last part 0 ends) :: rowA 5 1 (.slice A' z c') z (bs zs) :: rowA 5 1 (.slice QA 13 qc) 13 (bs wideB) :: mapA M (ent1 (.pointer (some ⟨X, 0, none⟩))) mc :: blkA X 130 (callV nw q false rep true (.slice D 4 dc) true) :: rowA 5 1 (.slice D 4 dc) 4 (bs bodyL) :: F) := by
  refine (cf_one ⟨0, 1, 1, bodyL⟩ zs hn hk hs (fun w' hw => hB w' hw.tail.tail) hS hu hu0 hz hzl hS2 (fun ord' out' part' win' last' on' ends' G => ∃ QA qc D dc, ord' = ord ∧ out' = .slice QA 13 qc ∧ part' = part ∧ win' = win ∧ last' = last ∧ on' = 0 ∧ ends' = ends ∧ G = rowA 5 1 (.slice QA 13 qc) 13 (bs wideB) :: mapA M (ent1 (.pointer (some ⟨X, 0, none⟩))) mc :: blkA X 130 (callV nw q false rep true (.slice D 4 dc) true) :: rowA 5 1 (.slice D 4 dc) 4 (bs bodyL) :: F) ?_ h).mono ?_
  · intro w1 A1 BA c1 b1 h1
    have h2 := ((((((h1.nilRow 5 1).front 5 rfl).front 5 rfl).front 2 rfl).front 4 rfl).front 4 rfl)
    refine (cl_hear_data (n := 0) (xs := []) (by decide) h2).mono ?_
    rintro e w' ⟨rfl, A', c', D, dc, h'⟩
    exact ⟨rfl, _, _, _, _, _, _, _, _, ⟨A', c', D, dc, rfl, rfl, rfl, rfl, rfl, rfl, rfl, rfl⟩, ((h'.front 5 rfl).front 1 rfl)⟩
  · rintro e w' ⟨rfl, _, _, _, _, _, _, _, _, A', c', ⟨QA, qc, D, dc, rfl, rfl, rfl, rfl, rfl, rfl, rfl, rfl⟩, h'⟩
    exact ⟨rfl, A', c', D, dc, QA, qc, h'⟩
end Go.Proofs.YtbgnggkgmeagkaaGreatDoor
namespace Go.Proofs.YtbgnggkgmeagkaaGreatDoor
open Go.RowKit Go.Shelf
set_option maxRecDepth 100000 in
set_option maxHeartbeats 8000000 in
theorem bk_ans {w : World} {F : List Atom} {ib b c kb C M c0 : Nat} {A0 : Option Addr} {ord out part : Value} {win last : Int} {ends : Bool} (hi : F[ib]? = some (rowA 5 1 (.slice (some ⟨b, 0, none⟩) 9 c) 9 (bs setEB)))
    (h0 : Sep w (blkA kb 126 (cliV C M ord (.slice A0 0 c0) out win last part 0 ends) :: rowA 5 1 (.slice A0 0 c0) 0 [] :: F)) :
    Calls Tryz.prog 63 #[.pointer (some ⟨kb, 0, none⟩), .slice (some ⟨b, 0, none⟩) 9 c, .int .i64 7] w fun e w' => e = .returned (.bool true) ∧ ∃ A' c', Sep w' (blkA kb 126 (cliV C M ord (.slice A' 0 c') out win last part 0 ends) :: rowA 5 1 (.slice A' 0 c') 0 [] :: F) := by
  have hc := h0.cap (i := ib + 2) hi
  have ca0 : ¬ (c = 7) := by omega
  have cb0 : 7 ≤ c := by omega
  have H0 := Lib.hid (fun bc => cf_short (n := 0) (k := 7) (bc := bc) (xs := []) (ys := [0, 0, 0, 4, 1, 0, 0]) rfl rfl (by decide) (piece_in (i := ib) hi 0 7 _ rfl (by decide) (by decide)) (by kernel_rfl) h0)
  clear h0
  go_enter Tryz.func63, Tryz.ntmps63
  go_wp2_with fail
  refine wp_loop_rounds 3 ?_
  rw [rounds_succ]
  go_wp2_with fail
  refine (show Calls _ _ _ _ _ from H0.out _).mono ?_
  rintro e w1 ⟨rfl, A1, c1, h1⟩
  have H1 := Lib.hid (fun bc => bf_ans (n := 7) (k := 2) (bc := bc) (xs := [0, 0, 0, 4, 1, 0, 0]) (ys := [0, 0]) [] 9  rfl rfl (by decide) (piece_in (i := ib) hi 7 2 _ rfl (by decide) (by decide)) (by kernel_rfl) (by decide) (by decide) rfl (z := 0) rfl (by kernel_rfl) h1)
  clear H0 h1
  go_wp2_with fail
  rw [rounds_succ]
  go_wp2_with fail
  refine (show Calls _ _ _ _ _ from H1.out _).mono ?_
  rintro e w2 ⟨rfl, A2, c2, h2⟩
  have H2 := Lib.hid h2
  clear H1 h2
  go_wp2_with fail
  all_goals
    rw [rounds_succ]
    go_wp2
    go_ret
    exact ⟨rfl, A2, c2, H2.out⟩
set_option maxRecDepth 100000 in
set_option maxHeartbeats 8000000 in
theorem bk_set {w : World} {F : List Atom} {ib b c kb C M c0 oc : Nat} {A0 OA : Option Addr} {part : Value} {win last : Int} {ends : Bool} (hi : F[ib]? = some (rowA 5 1 (.slice (some ⟨b, 0, none⟩) 9 c) 9 (bs setB)))
    (h0 : Sep w (blkA kb 126 (cliV C M (.slice OA 0 oc) (.slice A0 0 c0) (.slice none 0 0) win last part 0 ends) :: rowA 5 1 (.slice A0 0 c0) 0 [] :: F)) :
    Calls Tryz.prog 63 #[.pointer (some ⟨kb, 0, none⟩), .slice (some ⟨b, 0, none⟩) 9 c, .int .i64 7] w fun e w' => e = .returned (.bool true) ∧ ∃ A' c' QA qc, Sep w' (blkA kb 126 (cliV C M (.slice OA 0 oc) (.slice A' 0 c') (.slice QA 9 qc) win last part 0 ends) :: rowA 5 1 (.slice A' 0 c') 0 [] :: rowA 5 1 (.slice QA 9 qc) 9 (bs setEB) :: F) := by
  have hc := h0.cap (i := ib + 2) hi
  have ca0 : ¬ (c = 7) := by omega
  have cb0 : 7 ≤ c := by omega
  have H0 := Lib.hid (fun bc => cf_short (n := 0) (k := 7) (bc := bc) (xs := []) (ys := [0, 0, 0, 4, 0, 0, 0]) rfl rfl (by decide) (piece_in (i := ib) hi 0 7 _ rfl (by decide) (by decide)) (by kernel_rfl) h0)
  clear h0
  go_enter Tryz.func63, Tryz.ntmps63
  go_wp2_with fail
  refine wp_loop_rounds 3 ?_
  rw [rounds_succ]
  go_wp2_with fail
  refine (show Calls _ _ _ _ _ from H0.out _).mono ?_
  rintro e w1 ⟨rfl, A1, c1, h1⟩
  have H1 := Lib.hid (fun bc => bf_set (n := 7) (k := 2) (bc := bc) (xs := [0, 0, 0, 4, 0, 0, 0]) (ys := [0, 0]) [] 9  rfl rfl (by decide) (piece_in (i := ib) hi 7 2 _ rfl (by decide) (by decide)) (by kernel_rfl) (by decide) (by decide) rfl (z := 0) rfl (by kernel_rfl) h1)
  clear H0 h1
  go_wp2_with fail
  rw [rounds_succ]
  go_wp2_with fail
  refine (show Calls _ _ _ _ _ from H1.out _).mono ?_
  rintro e w2 ⟨rfl, A2, c2, QA, qc, h2⟩
  have H2 := Lib.hid h2
  clear H1 h2
  go_wp2_with fail
  all_goals
    rw [rounds_succ]
    go_wp2
    go_ret
    exact ⟨rfl, A2, c2, QA, qc, H2.out⟩
set_option maxRecDepth 100000 in
set_option maxHeartbeats 8000000 in
theorem fd_wide {w : World} {F : List Atom} {ib b c g kb C S M Li St CM JM c0 oc : Nat} {A0 OA : Option Addr} {Rt log out evs : Value} {iw un last : Int} (ho : OrdAt F OA oc) (hi : F[ib]? = some (rowA 5 1 (.slice (some ⟨b, 0, none⟩) 13 c) 13 (bs wideB)))
    (h0 : Sep w (blkA g 120 (gatV kb Rt Li St CM JM last log) :: blkA kb 200 (conV C S M (.slice OA 0 oc) (.slice A0 0 c0) out iw 1996 un true (.pointer none) evs) :: rowA 5 1 (.slice A0 0 c0) 0 [] :: F)) :
    Calls Tryz.prog 17 #[.pointer (some ⟨g, 0, none⟩), .slice (some ⟨b, 0, none⟩) 13 c, .int .i64 3] w fun e w' => e = .returned (.bool true) ∧ ∃ A' c', Sep w' (blkA g 120 (gatV kb Rt Li St CM JM last log) :: blkA kb 200 (conV C S M (.slice OA 0 oc) (.slice A' 0 c') out iw 2000 un true (.pointer none) (.slice none 0 0)) :: rowA 5 1 (.slice A' 0 c') 0 [] :: F) := by
  have hc := h0.cap (i := ib + 3) hi
  have ca0 : ¬ (c = 3) := by omega
  have cb0 : 3 ≤ c := by omega
  have ca1 : ¬ (c - 3 = 3) := by omega
  have cb1 : 3 ≤ c - 3 := by omega
  have ca2 : ¬ (c - 3 - 3 = 3) := by omega
  have cb2 : 3 ≤ c - 3 - 3 := by omega
  have ca3 : ¬ (c - 3 - 3 - 3 = 3) := by omega
  have cb3 : 3 ≤ c - 3 - 3 - 3 := by omega
  have H0 := Lib.hid (fun bc => gf_short (n := 0) (k := 3) (bc := bc) (xs := []) (ys := [0, 0, 4]) rfl rfl (by decide) (piece_in (i := ib) hi 0 3 _ rfl (by decide) (by decide)) (by kernel_rfl) h0)
  clear h0
  go_enter Tryz.func17, Tryz.ntmps17
  go_wp2_with fail
  refine wp_loop_rounds 6 ?_
  rw [rounds_succ]
  go_wp2_with fail
  refine (show Calls _ _ _ _ _ from H0.out _).mono ?_
  rintro e w1 ⟨rfl, A1, c1, h1⟩
  have H1 := Lib.hid (fun bc => gf_short (n := 3) (k := 3) (bc := bc) (xs := [0, 0, 4]) (ys := [7, 0, 0]) rfl rfl (by decide) (piece_in (i := ib) hi 3 3 _ rfl (by decide) (by decide)) (by kernel_rfl) h1)
  clear H0 h1
  go_wp2_with fail
  rw [rounds_succ]
  go_wp2_with fail
  refine (show Calls _ _ _ _ _ from H1.out _).mono ?_
  rintro e w2 ⟨rfl, A2, c2, h2⟩
  have H2 := Lib.hid (fun bc => gf_short (n := 6) (k := 3) (bc := bc) (xs := [0, 0, 4, 7, 0, 0]) (ys := [0, 0, 0]) rfl rfl (by decide) (piece_in (i := ib) hi 6 3 _ rfl (by decide) (by decide)) (by kernel_rfl) h2)
  clear H1 h2
  go_wp2_with fail
  rw [rounds_succ]
  go_wp2_with fail
  refine (show Calls _ _ _ _ _ from H2.out _).mono ?_
  rintro e w3 ⟨rfl, A3, c3, h3⟩
  have H3 := Lib.hid (fun bc => gf_short (n := 9) (k := 3) (bc := bc) (xs := [0, 0, 4, 7, 0, 0, 0, 0, 0]) (ys := [0, 0, 0]) rfl rfl (by decide) (piece_in (i := ib) hi 9 3 _ rfl (by decide) (by decide)) (by kernel_rfl) h3)
  clear H2 h3
  go_wp2_with fail
  rw [rounds_succ]
  go_wp2_with fail
  refine (show Calls _ _ _ _ _ from H3.out _).mono ?_
  rintro e w4 ⟨rfl, A4, c4, h4⟩
  have H4 := Lib.hid (fun bc => gf_wide (n := 12) (k := 1) (bc := bc) (xs := [0, 0, 4, 7, 0, 0, 0, 0, 0, 0, 0, 0]) (ys := [4]) [] 13 ho rfl rfl (by decide) (piece_in (i := ib) hi 12 1 _ rfl (by decide) (by decide)) (by kernel_rfl) (by decide) (by decide) rfl (z := 0) rfl (by kernel_rfl) h4)
  clear H3 h4
  go_wp2_with fail
  rw [rounds_succ]
  go_wp2_with fail
  refine (show Calls _ _ _ _ _ from H4.out _).mono ?_
  rintro e w5 ⟨rfl, A5, c5, h5⟩
  have H5 := Lib.hid h5
  clear H4 h5
  go_wp2_with fail
  all_goals
    rw [rounds_succ]
    go_wp2
    go_ret
    exact ⟨rfl, A5, c5, H5.out⟩
set_option maxRecDepth 100000 in
set_option maxHeartbeats 8000000 in
theorem bk_rep {w : World} {F : List Atom} {ib b c kb C M X gg hh mc c0 : Nat} {A0 : Option Addr} {ord part q : Value} {win last nw : Int} {ends : Bool} (hi : F[ib]? = some (rowA 5 1 (.slice (some ⟨b, 0, none⟩) 26 c) 26 (bs rsB)))
    (h0 : Sep w (blkA kb 126 (cliV C M ord (.slice A0 0 c0) (.slice none 0 0) win last part 0 ends) :: rowA 5 1 (.slice A0 0 c0) 0 [] :: mapA M (ent1 (.pointer (some ⟨X, 0, none⟩))) mc :: blkA X 130 (callV nw q false (.slice none 0 0) false (.slice none 0 0) false) :: blkA C 93 (coderV gg hh) :: tabA hh none 0 [] 4096 :: F)) :
    Calls Tryz.prog 63 #[.pointer (some ⟨kb, 0, none⟩), .slice (some ⟨b, 0, none⟩) 26 c, .int .i64 3] w fun e w' => e = .returned (.bool true) ∧ ∃ A' c' D dc DB db QA qc P', Sep w' (blkA kb 126 (cliV C M ord (.slice A' 0 c') (.slice QA 13 qc) win last P' 0 false) :: rowA 5 1 (.slice A' 0 c') 0 [] :: rowA 5 1 (.slice QA 13 qc) 13 (bs wideB) :: mapA M (ent1 (.pointer (some ⟨X, 0, none⟩))) mc :: blkA X 130 (callV nw q false (.slice D 2 dc) true (.slice DB 4 db) true) :: rowA 5 1 (.slice DB 4 db) 4 (bs bodyL) :: rowA 41 2 (.slice D 2 dc) 2 (fvs repL) :: F) := by
  have hc := h0.cap (i := ib + 6) hi
  have ca0 : ¬ (c = 3) := by omega
  have cb0 : 3 ≤ c := by omega
  have ca1 : ¬ (c - 3 = 3) := by omega
  have cb1 : 3 ≤ c - 3 := by omega
  have ca2 : ¬ (c - 3 - 3 = 3) := by omega
  have cb2 : 3 ≤ c - 3 - 3 := by omega
  have ca3 : ¬ (c - 3 - 3 - 3 = 3) := by omega
  have cb3 : 3 ≤ c - 3 - 3 - 3 := by omega
  have ca4 : ¬ (c - 3 - 3 - 3 - 3 = 3) := by omega
  have cb4 : 3 ≤ c - 3 - 3 - 3 - 3 := by omega
  have ca5 : ¬ (c - 3 - 3 - 3 - 3 - 3 = 3) := by omega
  have cb5 : 3 ≤ c - 3 - 3 - 3 - 3 - 3 := by omega
  have ca6 : ¬ (c - 3 - 3 - 3 - 3 - 3 - 3 = 3) := by omega
  have cb6 : 3 ≤ c - 3 - 3 - 3 - 3 - 3 - 3 := by omega
  have ca7 : ¬ (c - 3 - 3 - 3 - 3 - 3 - 3 - 3 = 3) := by omega
  have cb7 : 3 ≤ c - 3 - 3 - 3 - 3 - 3 - 3 - 3 := by omega
  have H0 := Lib.hid (fun bc => cf_short (n := 0) (k := 3) (bc := bc) (xs := []) (ys := [0, 0, 4]) rfl rfl (by decide) (piece_in (i := ib + 4) hi 0 3 _ rfl (by decide) (by decide)) (by kernel_rfl) h0)
  clear h0
  go_enter Tryz.func63, Tryz.ntmps63
  go_wp2_with fail
  refine wp_loop_rounds 10 ?_
  rw [rounds_succ]
  go_wp2_with fail
  refine (show Calls _ _ _ _ _ from H0.out _).mono ?_
  rintro e w1 ⟨rfl, A1, c1, h1⟩
  have H1 := Lib.hid (fun bc => cf_short (n := 3) (k := 3) (bc := bc) (xs := [0, 0, 4]) (ys := [1, 4, 0]) rfl rfl (by decide) (piece_in (i := ib + 4) hi 3 3 _ rfl (by decide) (by decide)) (by kernel_rfl) h1)
  clear H0 h1
  go_wp2_with fail
  rw [rounds_succ]
  go_wp2_with fail
  refine (show Calls _ _ _ _ _ from H1.out _).mono ?_
  rintro e w2 ⟨rfl, A2, c2, h2⟩
  have H2 := Lib.hid (fun bc => cf_short (n := 6) (k := 3) (bc := bc) (xs := [0, 0, 4, 1, 4, 0]) (ys := [0, 0, 1]) rfl rfl (by decide) (piece_in (i := ib + 4) hi 6 3 _ rfl (by decide) (by decide)) (by kernel_rfl) h2)
  clear H1 h2
  go_wp2_with fail
  rw [rounds_succ]
  go_wp2_with fail
  refine (show Calls _ _ _ _ _ from H2.out _).mono ?_
  rintro e w3 ⟨rfl, A3, c3, h3⟩
  have H3 := Lib.hid (fun bc => cf_short (n := 9) (k := 3) (bc := bc) (xs := [0, 0, 4, 1, 4, 0, 0, 0, 1]) (ys := [133, 71, 1]) rfl rfl (by decide) (piece_in (i := ib + 4) hi 9 3 _ rfl (by decide) (by decide)) (by kernel_rfl) h3)
  clear H2 h3
  go_wp2_with fail
  rw [rounds_succ]
  go_wp2_with fail
  refine (show Calls _ _ _ _ _ from H3.out _).mono ?_
  rintro e w4 ⟨rfl, A4, c4, h4⟩
  have H4 := Lib.hid (fun bc => bf_head (n := 12) (k := 3) (bc := bc) (xs := [0, 0, 4, 1, 4, 0, 0, 0, 1, 133, 71, 1]) (ys := [52, 0, 0]) [0, 0] 13  rfl rfl (by decide) (piece_in (i := ib) hi 12 3 _ rfl (by decide) (by decide)) (by kernel_rfl) (by decide) (by decide) rfl (z := 2) rfl (by kernel_rfl) h4)
  clear H3 h4
  go_wp2_with fail
  rw [rounds_succ]
  go_wp2_with fail
  refine (show Calls _ _ _ _ _ from H4.out _).mono ?_
  rintro e w5 ⟨rfl, A5, c5, D, dc, P, h5⟩
  have H5 := Lib.hid (fun bc => cf_short (n := 2) (k := 3) (bc := bc) (xs := [0, 0]) (ys := [4, 0, 1]) rfl rfl (by decide) (piece_in (i := ib + 3) hi 15 3 _ rfl (by decide) (by decide)) (by kernel_rfl) h5)
  clear H4 h5
  go_wp2_with fail
  rw [rounds_succ]
  go_wp2_with fail
  refine (show Calls _ _ _ _ _ from H5.out _).mono ?_
  rintro e w6 ⟨rfl, A6, c6, h6⟩
  have H6 := Lib.hid (fun bc => cf_short (n := 5) (k := 3) (bc := bc) (xs := [0, 0, 4, 0, 1]) (ys := [0, 0, 0]) rfl rfl (by decide) (piece_in (i := ib + 3) hi 18 3 _ rfl (by decide) (by decide)) (by kernel_rfl) h6)
  clear H5 h6
  go_wp2_with fail
  rw [rounds_succ]
  go_wp2_with fail
  refine (show Calls _ _ _ _ _ from H6.out _).mono ?_
  rintro e w7 ⟨rfl, A7, c7, h7⟩
  have H7 := Lib.hid (fun bc => cf_short (n := 8) (k := 3) (bc := bc) (xs := [0, 0, 4, 0, 1, 0, 0, 0]) (ys := [1, 47, 112]) rfl rfl (by decide) (piece_in (i := ib + 3) hi 21 3 _ rfl (by decide) (by decide)) (by kernel_rfl) h7)
  clear H6 h7
  go_wp2_with fail
  rw [rounds_succ]
  go_wp2_with fail
  refine (show Calls _ _ _ _ _ from H7.out _).mono ?_
  rintro e w8 ⟨rfl, A8, c8, h8⟩
  have H8 := Lib.hid (fun bc => bf_data (n := 11) (k := 2) (bc := bc) (xs := [0, 0, 4, 0, 1, 0, 0, 0, 1, 47, 112]) (ys := [33, 120]) [] 13  rfl rfl (by decide) (piece_in (i := ib + 1) hi 24 2 _ rfl (by decide) (by decide)) (by kernel_rfl) (by decide) (by decide) rfl (z := 0) rfl (by kernel_rfl) h8)
  clear H7 h8
  go_wp2_with fail
  rw [rounds_succ]
  go_wp2_with fail
  refine (show Calls _ _ _ _ _ from H8.out _).mono ?_
  rintro e w9 ⟨rfl, A9, c9, DB, db, QA, qc, h9⟩
  have H9 := Lib.hid h9
  clear H8 h9
  go_wp2_with fail
  all_goals
    rw [rounds_succ]
    go_wp2
    go_ret
    exact ⟨rfl, A9, c9, D, dc, DB, db, QA, qc, P, H9.out⟩
def cliB : List UInt8 := [0, 0, 0, 4, 0, 0, 0, 0, 0, 0, 0, 8, 1, 4, 0, 0, 0, 1, 130, 67, 2, 47, 112, 68, 1, 104, 0, 0, 1, 0, 1, 0, 0, 0, 1, 120]
set_option maxRecDepth 100000 in
set_option maxHeartbeats 8000000 in
theorem fd_cli {w w0 : World} {F : List Atom} {io ib b c g kb C S M MS gg hh Li LM LM' St CM JM c0 rc : Nat} {A0 RA : Option Addr} {log evs : Value} {began : Bool} (hP : Pow w0) (hio : F[io]? = some (oldA w0)) (hi : F[ib]? = some (rowA 5 1 (.slice (some ⟨b, 0, none⟩) 36 c) 36 (bs cliB)))
    (h0 : Sep w (blkA g 120 (gatV kb (.slice RA 1 rc) Li St CM JM 0 log) :: blkA kb 200 (conV C S M (.slice none 0 0) (.slice A0 0 c0) (.slice none 0 0) 2000 2000 0 began (.pointer none) evs) :: rowA 5 1 (.slice A0 0 c0) 0 [] :: mapA CM #[] 0 :: mapA M #[] 0 :: blkA S 254 (stmV MS 0) :: mapA MS #[] 0 :: blkA C 93 (coderV gg hh) :: tabA hh none 0 [] 4096 :: blkA Li 193 #[.int .i64 10, .int .i64 10, .map (some LM), .map (some LM')] :: mapA LM' #[] 0 :: mapA LM #[] 0 :: blkA St 203 #[.slice none 0 0] :: rowA 47 3 (.slice RA 1 rc) 1 rtV :: mapA JM #[] 0 :: F)) :
    Calls Tryz.prog 17 #[.pointer (some ⟨g, 0, none⟩), .slice (some ⟨b, 0, none⟩) 36 c, .int .i64 7] w fun e w' => e = .returned (.bool true) ∧ ∃ A' c' QA qc X Y FA fc D dc fa fc' ba bc' ad jc evs', Sep w' (blkA g 120 (gatV kb (.slice RA 1 rc) Li St CM JM 1 log) :: blkA kb 200 (conV C S M (.slice none 0 0) (.slice A' 0 c') (.slice QA 9 qc) 1999 2000 0 true (.pointer none) evs') :: rowA 5 1 (.slice A' 0 c') 0 [] ::
      mapA CM (ent1 (.pointer (some ⟨Y, 0, none⟩))) 1 :: blkA Y 146 (gclV (.slice FA 3 fc) (.slice D 1 dc) (.string ⟨#[80, 79, 83, 84]⟩) (.string ⟨#[47, 112]⟩) (.string ⟨#[104]⟩) (.slice fa 0 fc') (.slice ba 1 bc') 0) :: mapA JM (ent1 (.agg #[.int .i64 1, .string ⟨#[97, 108, 108]⟩, .slice (some ad) 39 jc])) 1 :: bytA ad askTL ::
      mapA M (ent1 (.pointer (some ⟨X, 0, none⟩))) 1 :: blkA X 313 (chnV 1999 2000 0 (.slice none 0 0) false false) :: blkA S 254 (stmV MS 1) :: mapA MS (ent1 (.int .i64 2)) 1 :: blkA C 93 (coderV gg hh) :: rowA 5 1 (.slice QA 9 qc) 9 (bs setEB) :: F) := by
  have hc := h0.cap (i := ib + 15) hi
  have ca0 : ¬ (c = 7) := by omega
  have cb0 : 7 ≤ c := by omega
  have ca1 : ¬ (c - 7 = 7) := by omega
  have cb1 : 7 ≤ c - 7 := by omega
  have ca2 : ¬ (c - 7 - 7 = 7) := by omega
  have cb2 : 7 ≤ c - 7 - 7 := by omega
  have ca3 : ¬ (c - 7 - 7 - 7 = 7) := by omega
  have cb3 : 7 ≤ c - 7 - 7 - 7 := by omega
  have ca4 : ¬ (c - 7 - 7 - 7 - 7 = 7) := by omega
  have cb4 : 7 ≤ c - 7 - 7 - 7 - 7 := by omega
  have H0 := Lib.hid (fun bc => gf_short (n := 0) (k := 7) (bc := bc) (xs := []) (ys := [0, 0, 0, 4, 0, 0, 0]) rfl rfl (by decide) (piece_in (i := ib + 12) hi 0 7 _ rfl (by decide) (by decide)) (by kernel_rfl) h0)
  clear h0
  go_enter Tryz.func17, Tryz.ntmps17
  go_wp2_with fail
  refine wp_loop_rounds 7 ?_
  rw [rounds_succ]
  go_wp2_with fail
  refine (show Calls _ _ _ _ _ from H0.out _).mono ?_
  rintro e w1 ⟨rfl, A1, c1, h1⟩
  have H1 := Lib.hid (fun bc => gf_set (n := 7) (k := 7) (bc := bc) (xs := [0, 0, 0, 4, 0, 0, 0]) (ys := [0, 0, 0, 0, 8, 1, 4]) [0, 0, 8, 1, 4] 9  rfl rfl (by decide) (piece_in (i := ib + 12) hi 7 7 _ rfl (by decide) (by decide)) (by kernel_rfl) (by decide) (by decide) rfl (z := 5) rfl (by kernel_rfl) h1)
  clear H0 h1
  go_wp2_with fail
  rw [rounds_succ]
  go_wp2_with fail
  refine (show Calls _ _ _ _ _ from H1.out _).mono ?_
  rintro e w2 ⟨rfl, A2, c2, QA, qc, h2⟩
  have H2 := Lib.hid (fun bc => gf_short (n := 5) (k := 7) (bc := bc) (xs := [0, 0, 8, 1, 4]) (ys := [0, 0, 0, 1, 130, 67, 2]) rfl rfl (by decide) (piece_in (i := ib + 13) hi 14 7 _ rfl (by decide) (by decide)) (by kernel_rfl) h2)
  clear H1 h2
  go_wp2_with fail
  rw [rounds_succ]
  go_wp2_with fail
  refine (show Calls _ _ _ _ _ from H2.out _).mono ?_
  rintro e w3 ⟨rfl, A3, c3, h3⟩
  have h3' := (((((((((h3.front 9 rfl).front 9 rfl).front 9 rfl).front 9 rfl).front 9 rfl).front 9 rfl).front 8 rfl).front 8 rfl).front 8 rfl)
  have H3 := Lib.hid (fun bc => gf_head (n := 12) (k := 7) (bc := bc) (xs := [0, 0, 8, 1, 4, 0, 0, 0, 1, 130, 67, 2]) (ys := [47, 112, 68, 1, 104, 0, 0]) [0, 0] 17  rfl rfl (by decide) (piece_in (i := ib + 7) hi 21 7 _ rfl (by decide) (by decide)) (by kernel_rfl) (by decide) (by decide) rfl (z := 2) rfl (by kernel_rfl) h3')
  clear h3'
  clear H2 h3
  go_wp2_with fail
  rw [rounds_succ]
  go_wp2_with fail
  refine (show Calls _ _ _ _ _ from H3.out _).mono ?_
  rintro e w4 ⟨rfl, A4, c4, Y, X, FA, fc, ev4, h4⟩
  have H4 := Lib.hid (fun bc => gf_short (n := 2) (k := 7) (bc := bc) (xs := [0, 0]) (ys := [1, 0, 1, 0, 0, 0, 1]) rfl rfl (by decide) (piece_in (i := ib + 15) hi 28 7 _ rfl (by decide) (by decide)) (by kernel_rfl) h4)
  clear H3 h4
  go_wp2_with fail
  rw [rounds_succ]
  go_wp2_with fail
  refine (show Calls _ _ _ _ _ from H4.out _).mono ?_
  rintro e w5 ⟨rfl, A5, c5, h5⟩
  have h5' := ((((((((((((((((h5.front 17 rfl).front 17 rfl).front 17 rfl).front 17 rfl).front 17 rfl).front 17 rfl).front 15 rfl).front 15 rfl).front 15 rfl).front 15 rfl).front 15 rfl).front 15 rfl).front 15 rfl).front 15 rfl).front 15 rfl).front 15 rfl)
  have H5 := Lib.hid (fun bc => gf_data (n := 9) (k := 1) (bc := bc) (xs := [0, 0, 1, 0, 1, 0, 0, 0, 1]) (ys := [120]) [] 10 hP (io := io + 2) hio rfl rfl (by decide) (piece_in (i := ib + 2) hi 35 1 _ rfl (by decide) (by decide)) (by kernel_rfl) (by decide) (by decide) rfl (z := 0) rfl (by kernel_rfl) h5')
  clear h5'
  clear H4 h5
  go_wp2_with fail
  rw [rounds_succ]
  go_wp2_with fail
  refine (show Calls _ _ _ _ _ from H5.out _).mono ?_
  rintro e w6 ⟨rfl, A6, c6, fa, fc', ba, bc', ad, jc, D, dc, ev6, h6⟩
  have H6 := Lib.hid h6
  clear H5 h6
  go_wp2_with fail
  all_goals
    rw [rounds_succ]
    go_wp2
    go_ret
    exact ⟨rfl, A6, c6, QA, qc, X, Y, FA, fc, D, dc, fa, fc', ba, bc', ad, jc, ev6, H6.out⟩
end Go.Proofs.YtbgnggkgmeagkaaGreatDoor
