/-
  A body in one piece is read: chunk.number, chunk.Decode. No condition.
  A client hears the body of the reply. Condition: its call is the first.
  A body in one piece is read: chunk.Decode. No condition.
  line.ReadTell of the one answer. No condition.
  A loop over one piece of a body. No condition.
-/
import Derived.Test.YtbgnggkgmeagkaaGreatDoorMTopLines20
import Derived.Test.YtbgnggkgmeagkaaGreatDoorMTopLines14
import Derived.LoopN
import Derived.Test.YtbgnggkgmeagkaaGreatDoorMTopLines27
import Derived.Test.YtbgnggkgmeagkaaGreatDoorMTopLines03
import Derived.Test.YtbgnggkgmeagkaaGreatDoorMTopLines29
import Derived.Test.YtbgnggkgmeagkaaGreatDoorMTopLines26
set_option linter.unusedSimpArgs false
set_option linter.unusedVariables false
namespace Go.Proofs.YtbgnggkgmeagkaaGreatDoor
open Go.RowKit
def chnkL : List UInt8 := [52, 13, 10, 47, 112, 33, 120, 13, 10, 48, 13, 10, 13, 10]
def hexS : ByteArray := ⟨#[48, 49, 50, 51, 52, 53, 54, 55, 56, 57, 97, 98, 99, 100, 101, 102]⟩
theorem hex_at (c : UInt8) (w : World) (d : Int) (hd : Lib.indexByte hexS.data.toList c = d) : Calls Tryz.prog 78 #[.string ⟨#[48, 49, 50, 51, 52, 53, 54, 55, 56, 57, 97, 98, 99, 100, 101, 102]⟩, .int .u8 ((c.toNat : Nat) : Int)] w fun e w' => e = .returned (.int .i64 d) ∧ w' = w := by
  have h := Tryz.strings_IndexByte hexS ((c.toNat : Nat) : Int) w
  have e : (((c.toNat : Nat) : Int)).toNat.toUInt8 = c := by simp
  rw [e, hd] at h
  exact h
set_option maxRecDepth 100000 in
set_option maxHeartbeats 2000000 in
theorem num_one (b off cap a : Nat) (c : UInt8) (d mo ai ni : Int) (hh : (a = 0 ∧ c = 52 ∧ d = 4 ∧ mo = 8000 ∧ ai = 0 ∧ ni = 1) ∨ (a = 9 ∧ c = 48 ∧ d = 0 ∧ mo = 7996 ∧ ai = 9 ∧ ni = 10)) (w : World) (h0 : w.cell? ⟨b, off + a, none⟩ = some (.int .u8 ((c.toNat : Nat) : Int))) (h1 : w.cell? ⟨b, off + (a + 1), none⟩ = some (.int .u8 13)) :
    Calls Tryz.prog 173 #[.slice (some ⟨b, off, none⟩) 14 cap, .int .i64 ai, .int .i64 mo] w fun e w' => e = .returned (.tuple #[.int .i64 d, .int .i64 ni, .nilIface]) ∧ w = w' := by
  have q1 := hex_at 13 w (-1) (by decide)
  have q0 := hex_at 52 w 4 (by decide)
  have q2 := hex_at 48 w 0 (by decide)
  have Q0 := Lib.hid q0
  have Q1 := Lib.hid q1
  have Q2 := Lib.hid q2
  clear q0 q1 q2
  rcases hh with ⟨rfl, rfl, rfl, rfl, rfl, rfl⟩ | ⟨rfl, rfl, rfl, rfl, rfl, rfl⟩
  all_goals
    simp only [Nat.add_zero, Nat.zero_add, Nat.reduceAdd] at h0 h1
    go_enter Tryz.func173, Tryz.ntmps173
    go_wp2
    refine wp_loop_rounds 2 ?_
    rw [rounds_succ]
    go_wp2_with (go_at_call 78; (first | refine Q0.out.mono ?_ | refine Q2.out.mono ?_); rintro e w' ⟨rfl, rfl⟩)
    rw [rounds_succ]
    go_wp2_with (go_at_call 78; refine Q1.out.mono ?_; rintro e w' ⟨rfl, rfl⟩)
    go_ret3
    exact ⟨rfl, rfl⟩
end Go.Proofs.YtbgnggkgmeagkaaGreatDoor
namespace Go.Proofs.YtbgnggkgmeagkaaGreatDoor
open Go.RowKit Go.Shelf
def bodyL : List UInt8 := [47, 112, 33, 120]
def wideF : Frm := ⟨7, 0, 0, [0, 0, 0, 4]⟩
def wideB : List UInt8 := [0, 0, 4, 7, 0, 0, 0, 0, 0, 0, 0, 0, 4]
theorem wideF_ok : frmE wideF = 0 ∧ frmL wideF = wideB := by decide
set_option maxRecDepth 100000 in
set_option maxHeartbeats 1000000 in
theorem cl_word (w : World) : Calls Tryz.prog 297 #[.int .i64 4] w fun e w' => ∃ A c, e = .returned (.slice A 4 c) ∧ Reads w' w'.heap.size 1 A 4 (bs [0, 0, 0, 4]) ∧ Below w.heap.size w w' := by
  have HB := Lib.hid (wbig_ok 4 4 (by decide) (by decide) (by decide) (by decide) w)
  go_enter Tryz.func297, Tryz.ntmps297
  go_wp2_with fail
  refine HB.out.mono ?_
  rintro e w1 ⟨v, rfl, hown, hb⟩
  obtain ⟨A, c, rfl⟩ := own_slice hown
  have HR := Lib.hid (Reads.of_own hown)
  have HW := Lib.hid hb
  clear hown hb
  go_wp2
  go_ret
  exact ⟨_, _, rfl, HR.out, HW.out⟩
set_option maxRecDepth 100000 in
set_option maxHeartbeats 2000000 in
theorem co_open {w : World} {L : List Atom} {i j k kb C M X c : Nat} {ord inn out part q rep body : Value} {win last on n : Int} {ends wt got : Bool} (h : Sep w L) (hi : L[i]? = some (blkA kb 126 (cliV C M ord inn out win last part on ends))) (hj : L[j]? = some (mapA M (ent1 (.pointer (some ⟨X, 0, none⟩))) c)) (hk : L[k]? = some (blkA X 130 (callV n q wt rep got body false))) :
    Calls Tryz.prog 296 #[.pointer (some ⟨kb, 0, none⟩), .int .i64 1] w fun e w' => e = .returned (.tuple #[.pointer (some ⟨X, 0, none⟩), .bool true]) ∧ Sep w' L := by
  have kK := h.at_ hi
  have kX := h.at_ hk
  have ql := h.look_call hj true
  have H := Lib.hid h
  unfold cliV at kK
  unfold callV at kX
  clear h hi hj hk
  go_enter Tryz.func296, Tryz.ntmps296
  go_wp2
  go_quiet (fail)
  go_wp2
  go_ret2
  exact ⟨rfl, H.out.drewN _⟩
set_option maxRecDepth 100000 in
set_option maxHeartbeats 4000000 in
theorem cl_data {w : World} {F : List Atom} {kb C M X n c mc bc : Nat} {A BA : Option Addr} {ord inn part q rep : Value} {xs : List UInt8} {win last on nw : Int} {ends : Bool} (hn : n ≤ 1000)
    (h : Sep w (rowA 5 1 (.slice BA 4 bc) 4 (bs bodyL) :: blkA kb 126 (cliV C M ord inn (.slice A n c) win last part on ends) :: rowA 5 1 (.slice A n c) n (bs xs) :: mapA M (ent1 (.pointer (some ⟨X, 0, none⟩))) mc :: blkA X 130 (callV nw q false rep true (.slice none 0 0) false) :: F)) :
    Calls Tryz.prog 246 #[.pointer (some ⟨kb, 0, none⟩), .agg #[.int .i64 0, .int .i64 1, .int .i64 1, .slice BA 4 bc]] w fun e w' => e = .returned (.bool true) ∧ ∃ A' c' D dc, Sep w' (blkA kb 126 (cliV C M ord inn (.slice A' (n + 13) c') win last part on ends) :: rowA 5 1 (.slice A' (n + 13) c') (n + 13) (bs (xs ++ wideB)) ::
      mapA M (ent1 (.pointer (some ⟨X, 0, none⟩))) mc :: blkA X 130 (callV nw q false rep true (.slice D 4 dc) true) :: rowA 5 1 (.slice D 4 dc) 4 (bs bodyL) :: F) := by
  have h1 := (h.nilRow 5 1).newBlk 134 #[.int .i64 0, .int .i64 1, .int .i64 1, .slice BA 4 bc]
  have kX := h1.at_ (i := 0) rfl
  have HO := Lib.hid (co_open h1 (i := 3) (j := 5) (k := 6) rfl rfl rfl)
  clear h h1
  go_enter Tryz.func246, Tryz.ntmps246
  go_wp2_with fail
  refine HO.out.mono ?_
  rintro e w2 ⟨rfl, h2⟩
  clear kX HO
  have kX := h2.at_ (i := 0) rfl
  have k6 := h2.at_ (i := 6) rfl
  have HR := Lib.hid (reads_sep h2.drew (i := 2) rfl)
  have H2 := Lib.hid h2.drew
  unfold callV at k6
  clear h2
  go_wp2_with fail
  have b11 : (bits .and .i64 1 1 != 0) = true := by decide
  go_region_law (refine step_joinA rfl _ _ 23 5 rfl Tryz.underlying23 u8_info rfl (by decide) (by decide) _ 0 [] H2.out (i := 1) rfl (by simp [Act.eval, Act.put]) BA 4 bc (bs bodyL) HR.out (bs_ones _) (by simp [Act.eval, Act.put]) (by decide) ?_; intro A5 c5 w5 h5 _; have k6b := h5.at_ (i := 6) rfl; have kX5 := h5.at_ (i := 0) rfl; have n1 := h5.ne_ (i := 6) (i' := 0) rfl rfl (by decide); have n2 := Ne.symm n1; have H5 := Lib.hid h5; unfold callV at k6b; clear h5)
  all_goals
    go_wp2_with fail
    obtain ⟨w7, hw7⟩ : ∃ w7, (w5.setCell ⟨X, 5, none⟩ (.slice A5 4 c5)).setCell ⟨X, 6, none⟩ (.bool true) = w7 := ⟨_, rfl⟩
    have h7 := (H5.out.set_ (i := 6) rfl 5 (.slice A5 4 c5)).set_ (i := 6) rfl 6 (.bool true)
    rw [hw7] at h7 ⊢
    change Sep w7 (_ :: _ :: _ :: _ :: _ :: _ :: blkA X _ (callV nw q false rep true (.slice A5 4 c5) true) :: _) at h7
    clear kX kX5 n1 n2 k6 k6b H5 H2 HR hw7
    refine (cl_word w7).mono ?_
    rintro e w8 ⟨A8, c8, rfl, hr8, hb8⟩
    have h8 := ((h7.below hb8).front 4 rfl).front 4 rfl
    clear h7 hb8
    go_wp2_with fail
    refine (csay wideF wideF_ok.1 A8 c8 hr8 kb (xs := xs) (by omega) h8).mono ?_
    rintro e w9 ⟨rfl, A9, c9, h9⟩
    rw [wideF_ok.2] at h9
    have kX := h9.at_ (i := 6) rfl
    have H9 := Lib.hid h9
    unfold callV at kX
    clear h8 hr8 h9
    go_wp2
    go_ret
    exact ⟨rfl, A9, c9, A5, c5, (((((H9.out.drop_ 2).drop_ 3).front 4 rfl).front 4 rfl).front 3 rfl).front 3 rfl⟩
end Go.Proofs.YtbgnggkgmeagkaaGreatDoor
namespace Go.Proofs.YtbgnggkgmeagkaaGreatDoor
open Go.RowKit
/-- These bytes lie there, while the parts F stand. -/
def RdIn (F : List Atom) (ad : Addr) (l : List UInt8) : Prop := ∀ W, Sep W F → Reads W W.heap.size 1 (some ad) l.length (bs l)
theorem tail_cells {w : World} {b o n c : Nat} (k0 : Nat) {l m : List UInt8} (hr : Reads w w.heap.size 1 (some ⟨b, o, none⟩) n (bs l)) (hc : n ≤ c) (hm : l.drop k0 = m) (hk : k0 < n) :
    Reads w w.heap.size 1 (some ⟨b, o + k0, none⟩) (n - k0) (bs m) ∧ ∀ k u, m[k]? = some u → w.cell? ⟨b, o + k0 + k, none⟩ = some (.int .u8 ((u.toNat : Nat) : Int)) := by
  have h1 := hr.cut (Nat.le_of_lt hk) hc
  subst hm
  rw [Nat.mul_one, bs_drop, if_neg (by omega), show (some (⟨b, o, none⟩ : Addr)).map (fun a => a.add k0) = some ⟨b, o + k0, none⟩ by simp [Addr.add_lit]] at h1
  refine ⟨h1, ?_⟩
  intro k u hu
  obtain ⟨b', off, e, -, hf⟩ := h1.form (by omega)
  cases e
  refine hf k _ ?_
  unfold bs
  rw [List.getElem?_map, hu]
  rfl
theorem head_cells {w : World} {b o n : Nat} {l : List UInt8} (hr : Reads w w.heap.size 1 (some ⟨b, o, none⟩) n (bs l)) (hn : 0 < n) : ∀ k u, l[k]? = some u → w.cell? ⟨b, o + k, none⟩ = some (.int .u8 ((u.toNat : Nat) : Int)) := by
  intro k u hu
  obtain ⟨b', off, e, -, hf⟩ := hr.form hn
  cases e
  refine hf k _ ?_
  unfold bs
  rw [List.getElem?_map, hu]
  rfl
def repTL : List UInt8 := [69, 68, 71, 69, 47, 49, 32, 50, 48, 48, 13, 10, 99, 111, 100, 105, 110, 103, 58, 32, 99, 104, 117, 110, 107, 101, 100, 13, 10, 13, 10] ++ chnkL
theorem min_7 : (min 14 7 : Int) = 7 := by decide
theorem min_12 : (min 14 12 : Int) = 12 := by decide
set_option maxRecDepth 100000 in
set_option maxHeartbeats 4000000 in
theorem ch_decode {w : World} {F : List Atom} {b o c : Nat} (h : Sep w F) (hR : RdIn F ⟨b, o, none⟩ chnkL) (hc : 14 ≤ c) :
    Calls Tryz.prog 119 #[.slice (some ⟨b, o, none⟩) 14 c] w fun e w' => ∃ A c', e = .returned (.tuple #[.slice A 4 c', .int .i64 14, .nilIface]) ∧ Sep w' (rowA 5 1 (.slice A 4 c') 4 (bs bodyL) :: F) := by
  have hr0 := hR w h
  have hx0 := head_cells hr0 (by decide)
  have h0 := h.nilRow 5 1
  have M1 := cmatch_ok chnkL [13, 10] 1 (by decide) (by decide) (by decide) (some ⟨b, o, none⟩) 14 c rfl w hr0
  have N1 := num_one b o c 0 52 4 8000 0 1 (.inl ⟨rfl, rfl, rfl, rfl, rfl, rfl⟩) w (hx0 0 52 rfl) (hx0 1 13 rfl)
  have H0 := Lib.hid h0
  have HM1 := Lib.hid M1
  have HN1 := Lib.hid N1
  have hm7 := min_7
  have hm12 := min_12
  clear h h0 hr0 hx0 M1 N1
  go_enter Tryz.func119, Tryz.ntmps119
  go_wp2
  refine wp_loop_rounds 2 ?_
  rw [rounds_succ]
  go_wp2_with fail
  refine (show Calls _ _ _ _ _ from HN1.out).mono ?_
  rintro e w' ⟨rfl, rfl⟩
  go_wp2_with fail
  refine (show Calls _ _ _ _ _ from HM1.out).mono ?_
  rintro e w1 ⟨rfl, hb1⟩
  have h1 := H0.out.below hb1
  have hr3 := (tail_cells (n := 14) 3 (hR w1 h1.tail) hc (m := [47, 112, 33, 120] ++ [13, 10, 48, 13, 10, 13, 10]) rfl (by decide)).1
  have HR3 := Lib.hid (hr3.take (k := 4) (by decide))
  have H1 := Lib.hid h1
  clear H0 HM1 HN1 hb1 h1 hr3
  go_wp2_with (at_builtin; refine wpList_joinA rfl _ _ 23 5 rfl Tryz.underlying23 u8_info rfl (by decide) (by decide) _ 0 [] H1.out (i := 0) rfl rfl _ 4 (c - 3) (bs [47, 112, 33, 120]) HR3.out (bs_ones _) rfl (by decide) ?_; intro A2 c2 w2 h2 _; have H2 := Lib.hid h2; clear h2)
  have h2 := H2.out
  change Sep w2 (rowA _ 1 (.slice A2 4 c2) 4 (bs bodyL) :: F) at h2
  have h2' := Lib.hid h2
  have hr2 := hR w2 h2.tail
  have M7 := cmatch_ok chnkL [13, 10] 7 (by decide) (by decide) (by decide) (some ⟨b, o, none⟩) 14 c rfl w2 hr2
  have HM7 := Lib.hid M7
  clear H1 HR3 H2 h2 hr2 M7
  go_wp2_with fail
  refine (show Calls _ _ _ _ _ from HM7.out).mono ?_
  rintro e w3 ⟨rfl, hb3⟩
  have h3 := h2'.out.below hb3
  have hr3 := hR w3 h3.tail
  have hx3 := head_cells hr3 (by decide)
  have N9 := num_one b o c 9 48 0 7996 9 10 (.inr ⟨rfl, rfl, rfl, rfl, rfl, rfl⟩) w3 (hx3 9 48 rfl) (hx3 10 13 rfl)
  have M10 := cmatch_ok chnkL [13, 10] 10 (by decide) (by decide) (by decide) (some ⟨b, o, none⟩) 14 c rfl w3 hr3
  have HN9 := Lib.hid N9
  have HM10 := Lib.hid M10
  have H3 := Lib.hid h3
  clear h2' HM7 hb3 h3 hr3 hx3 N9 M10
  go_wp2_with fail
  rw [rounds_succ]
  go_wp2_with fail
  refine (show Calls _ _ _ _ _ from HN9.out).mono ?_
  rintro e w' ⟨rfl, rfl⟩
  go_wp2_with fail
  refine (show Calls _ _ _ _ _ from HM10.out).mono ?_
  rintro e w4 ⟨rfl, hb4⟩
  have h4 := H3.out.below hb4
  have hr4 := (tail_cells (n := 14) 12 (hR w4 h4.tail) hc (m := [13, 10]) rfl (by decide)).1
  have HR4 := Lib.hid (hr4.take (k := 0) (by decide))
  have H4 := Lib.hid h4
  clear H3 HN9 HM10 hb4 h4 hr4
  go_wp2_with (at_builtin; refine wpList_joinA rfl _ _ 23 5 rfl Tryz.underlying23 u8_info rfl (by decide) (by decide) _ 4 _ H4.out (i := 0) rfl rfl _ 0 (c - 12) [] HR4.out (bs_ones []) rfl (by decide) ?_; intro A5 c5 w5 h5 _; have H5 := Lib.hid h5; clear h5)
  have h5 := H5.out
  change Sep w5 (rowA _ 1 (.slice A5 4 c5) 4 (bs bodyL) :: F) at h5
  have hr5 := hR w5 h5.tail
  have M12 := cmatch_ok chnkL [13, 10] 12 (by decide) (by decide) (by decide) (some ⟨b, o, none⟩) 14 c rfl w5 hr5
  have HM12 := Lib.hid M12
  have h5' := Lib.hid h5
  clear H4 HR4 H5 h5 hr5 M12
  go_wp2_with fail
  refine (show Calls _ _ _ _ _ from HM12.out).mono ?_
  rintro e w6 ⟨rfl, hb6⟩
  have h6 := Lib.hid (h5'.out.below hb6)
  clear h5' HM12 hb6
  go_wp2
  go_ret3
  exact ⟨A5, c5, rfl, h6.out⟩
end Go.Proofs.YtbgnggkgmeagkaaGreatDoor
namespace Go.Proofs.YtbgnggkgmeagkaaGreatDoor
open Go.RowKit
theorem repTL_len : repTL.length = 45 := rfl
def rdrV (b o c : Nat) (a : Int) : Array Value := #[.slice (some ⟨b, o, none⟩) 45 c, .int .i64 a, .nilIface]
theorem sep_rdr {W : World} {L : List Atom} {iR R b o c : Nat} (a : Nat) (h : Sep W L) (hR : L[iR]? = some (blkA R 77 (rdrV b o c ((a : Nat) : Int)))) (h1 : Reads W W.heap.size 1 (some ⟨b, o, none⟩) 45 (bs repTL)) (hc : 45 ≤ c) (hbR : b < R) (ha : a ≤ 45) :
    RdR W R (some ⟨b, o, none⟩) repTL c a (repTL.drop a) := by
  refine ⟨⟨h.blk hR, ⟨h1.1, fun hn => ?_⟩, ha, hc, by decide⟩, rfl⟩
  obtain ⟨ad, e, -, hcl⟩ := h1.2 hn
  cases e
  exact ⟨_, rfl, hbR, hcl⟩
theorem sep_rdr_next {W W' : World} {L : List Atom} {iR R b o c : Nat} {a : Int} {rest : List UInt8} (a2 : Nat) (h : Sep W L) (hR : L[iR]? = some (blkA R 77 (rdrV b o c a))) (hr : ∃ a2, RdR W' R (some ⟨b, o, none⟩) repTL c a2 rest) (hb : BelowBut W.heap.size R W W') (ha : a2 + rest.length = 45) :
    Sep W' (L.set iR (blkA R 77 (rdrV b o c ((a2 : Nat) : Int)))) := by
  obtain ⟨a3, hr⟩ := hr
  have h3 : a3 = a2 := by have := hr.len; rw [repTL_len] at this; omega
  subst h3
  refine h.upd hR (show Keep (fun k => k = R) _ _ from ⟨hb.os, hb.tape, hb.output, hb.size, fun k hk hn => hb.block k hk hn⟩) hr.rd.blk ?_ (fun k hk => .inl hk)
  rintro k rfl
  exact hr.rd.blk.lt
set_option maxRecDepth 100000 in
set_option maxHeartbeats 4000000 in
theorem rt_ok {w : World} {F : List Atom} {b o c : Nat} (h : Sep w F) (hR : RdIn F ⟨b, o, none⟩ repTL) (hc : 45 ≤ c) :
    Calls Tryz.prog 65 #[.slice (some ⟨b, o, none⟩) 45 c, .bool false, .bool false] w fun e w' => ∃ A c', e = .returned (.tuple #[.agg #[.int .i64 200, .slice none 0 0, .slice A 4 c'], .int .i64 45, .nilIface]) ∧ Sep w' (rowA 5 1 (.slice A 4 c') 4 (bs bodyL) :: F) := by
  have hbl : b < w.heap.size := by
    obtain ⟨ad, e, hb, -⟩ := (hR w h).2 (by decide)
    cases e
    exact hb
  have h0 := (h.newBlk 69 #[.int .i64 0, .slice none 0 0, .slice none 0 0]).newBlk 77 (rdrV b o c ((0 : Nat) : Int))
  simp only [World.size_alloc] at h0
  have r0 := sep_rdr 0 h0 (iR := 0) rfl (hR _ h0.tail.tail) hc (by omega) (by decide)
  have HM := Lib.hid (rmatch_rest (s := [69, 68, 71, 69, 47, 49, 32]) (rest := repTL.drop 7) r0)
  have H0 := Lib.hid h0
  clear h h0 r0
  go_enter Tryz.func65, Tryz.ntmps65
  go_wp2_with fail
  refine (show Calls _ _ _ _ _ from HM.out).mono ?_
  rintro e w1 ⟨rfl, hr1, hb1⟩
  have h1 := sep_rdr_next 7 H0.out (iR := 0) rfl hr1 hb1 rfl
  have kR := h1.at_ (i := 0) rfl
  have kG := h1.at_ (i := 1) rfl
  have n1 := h1.ne_ (i := 0) (i' := 1) rfl rfl (by decide)
  have n2 := Ne.symm n1
  have hx := head_cells (hR _ h1.tail.tail) (by decide)
  have x7 := hx 7 50 rfl
  have x8 := hx 8 48 rfl
  have x9 := hx 9 48 rfl
  have H1 := Lib.hid h1
  have n3 : b ≠ w.heap.size := by omega
  have n4 : b ≠ w.heap.size + 1 := by omega
  unfold rdrV at kR
  clear HM H0 hr1 hb1 h1 hx
  go_wp2_with fail
  refine wp_loop_rounds 4 ?_
  rw [rounds_succ]
  go_wp2_with fail
  go_region
  go_wp2_with fail
  obtain ⟨w2, hw⟩ : ∃ w2, ((w1.setCell ⟨w.heap.size, 0, none⟩ (.int .i64 2)).setCell ⟨w.heap.size + 1, 1, none⟩ (.int .i64 8)).drew = w2 := ⟨_, rfl⟩
  have h2 := ((H1.out.set_ (i := 1) rfl 0 (.int .i64 2)).set_ (i := 0) rfl 1 (.int .i64 8)).drew
  rw [hw] at h2 ⊢
  change Sep w2 (blkA (w.heap.size + 1) 77 (rdrV b o c ((8 : Nat) : Int)) :: blkA w.heap.size 69 #[.int .i64 2, .slice none 0 0, .slice none 0 0] :: F) at h2
  clear kR kG x7 x8 x9 hw H1
  have kR := h2.at_ (i := 0) rfl
  have kG := h2.at_ (i := 1) rfl
  have hx := head_cells (hR _ h2.tail.tail) (by decide)
  have x7 := hx 7 50 rfl
  have x8 := hx 8 48 rfl
  have x9 := hx 9 48 rfl
  have H2 := Lib.hid h2
  unfold rdrV at kR
  clear h2 hx
  rw [rounds_succ]
  go_wp2_with fail
  go_region
  go_wp2_with fail
  obtain ⟨w3, hw⟩ : ∃ w3, ((w2.setCell ⟨w.heap.size, 0, none⟩ (.int .i64 20)).setCell ⟨w.heap.size + 1, 1, none⟩ (.int .i64 9)).drew = w3 := ⟨_, rfl⟩
  have h3 := ((H2.out.set_ (i := 1) rfl 0 (.int .i64 20)).set_ (i := 0) rfl 1 (.int .i64 9)).drew
  rw [hw] at h3 ⊢
  change Sep w3 (blkA (w.heap.size + 1) 77 (rdrV b o c ((9 : Nat) : Int)) :: blkA w.heap.size 69 #[.int .i64 20, .slice none 0 0, .slice none 0 0] :: F) at h3
  clear kR kG x7 x8 x9 hw H2
  have kR := h3.at_ (i := 0) rfl
  have kG := h3.at_ (i := 1) rfl
  have hx := head_cells (hR _ h3.tail.tail) (by decide)
  have x7 := hx 7 50 rfl
  have x8 := hx 8 48 rfl
  have x9 := hx 9 48 rfl
  have H3 := Lib.hid h3
  unfold rdrV at kR
  clear h3 hx
  rw [rounds_succ]
  go_wp2_with fail
  go_region
  go_wp2_with fail
  obtain ⟨w4, hw⟩ : ∃ w4, ((w3.setCell ⟨w.heap.size, 0, none⟩ (.int .i64 200)).setCell ⟨w.heap.size + 1, 1, none⟩ (.int .i64 10)).drew = w4 := ⟨_, rfl⟩
  have h4 := ((H3.out.set_ (i := 1) rfl 0 (.int .i64 200)).set_ (i := 0) rfl 1 (.int .i64 10)).drew
  rw [hw] at h4 ⊢
  change Sep w4 (blkA (w.heap.size + 1) 77 (rdrV b o c ((10 : Nat) : Int)) :: blkA w.heap.size 69 #[.int .i64 200, .slice none 0 0, .slice none 0 0] :: F) at h4
  clear kR kG x7 x8 x9 hw H3
  have kR := h4.at_ (i := 0) rfl
  have kG := h4.at_ (i := 1) rfl
  have hx := head_cells (hR _ h4.tail.tail) (by decide)
  have x7 := hx 7 50 rfl
  have x8 := hx 8 48 rfl
  have x9 := hx 9 48 rfl
  have H4 := Lib.hid h4
  unfold rdrV at kR
  clear h4 hx
  have r4 := sep_rdr 10 H4.out (iR := 0) rfl (hR _ H4.out.tail.tail) hc (by omega) (by decide)
  have HM := Lib.hid (rmatch_rest (s := [13, 10]) (rest := repTL.drop 12) r4)
  clear r4 x7 x8 x9
  rw [rounds_succ]
  go_wp2_with fail
  refine (show Calls _ _ _ _ _ from HM.out).mono ?_
  rintro e w5 ⟨rfl, hr5, hb5⟩
  have h5 := sep_rdr_next 12 H4.out (iR := 0) rfl hr5 hb5 rfl
  have r5 := sep_rdr 12 h5 (iR := 0) rfl (hR _ h5.tail.tail) hc (by omega) (by decide)
  have HH := Lib.hid (head_coded (rest := chnkL) r5)
  have H5 := Lib.hid h5
  clear kR kG HM H4 hr5 hb5 h5 r5
  go_wp2_with fail
  refine (show Calls _ _ _ _ _ from HH.out).mono ?_
  rintro e w6 ⟨rfl, hr6, hb6⟩
  have h6 := sep_rdr_next 31 H5.out (iR := 0) rfl hr6 hb6 rfl
  have kR := h6.at_ (i := 0) rfl
  have kG := h6.at_ (i := 1) rfl
  have H6 := Lib.hid h6
  have hc31 : ¬ c = 31 := by omega
  unfold rdrV at kR
  clear HH H5 hr6 hb6 h6
  go_wp2_with fail
  have h7 := H6.out.set_ (i := 1) rfl 1 (.slice none 0 0)
  refine (show Calls _ _ _ _ _ from ch_decode h7 (fun W hW => (tail_cells (n := 45) 31 (hR W hW.tail.tail) hc (m := chnkL) rfl (by decide)).1) (by omega)).mono ?_
  rintro e w7 ⟨A, c', rfl, h8⟩
  have kR := h8.at_ (i := 1) rfl
  have kG := h8.at_ (i := 2) rfl
  have H8 := Lib.hid h8
  unfold rdrV at kR
  clear H6 h7 h8
  go_wp2_with fail
  have h9 := ((H8.out.set_ (i := 2) rfl 2 (.slice A 4 c')).set_ (i := 1) rfl 2 .nilIface).set_ (i := 1) rfl 1 (.int .i64 45)
  refine (show Calls _ _ _ _ _ from fault_ok (sep_rdr 45 h9 (iR := 1) rfl (hR _ h9.tail.tail.tail) hc (by omega) (by decide)).rd).mono ?_
  rintro e w10 ⟨rfl, rfl⟩
  go_wp2_with fail
  obtain ⟨w11, hw⟩ : ∃ w11, ((w7.setCell ⟨w.heap.size, 2, none⟩ (.slice A 4 c')).setCell ⟨w.heap.size + 1, 2, none⟩ .nilIface).setCell ⟨w.heap.size + 1, 1, none⟩ (.int .i64 45) = w11 := ⟨_, rfl⟩
  rw [hw] at h9 ⊢
  change Sep w11 (_ :: blkA (w.heap.size + 1) 77 (rdrV b o c 45) :: blkA w.heap.size 69 #[.int .i64 200, .slice none 0 0, .slice A 4 c'] :: F) at h9
  clear kR kG hw H8
  have kR := h9.at_ (i := 1) rfl
  have kG := h9.at_ (i := 2) rfl
  have H9 := Lib.hid h9
  unfold rdrV at kR
  clear h9
  go_region
  all_goals
    go_wp2
    have hz := (((H9.out.set_ (i := 2) rfl 0 (.int .i64 200)).set_ (i := 2) rfl 1 (.slice none 0 0)).set_ (i := 2) rfl 2 (.slice A 4 c')).drew
    refine bodyPost_ret (results_cell_tmp2 rfl _ _ w.heap.size _ _ _ rfl (hz.blk (i := 2) rfl) Tryz.underlying69 rfl rep_size) rfl ?_
    exact ⟨A, c', rfl, (hz.drop_ 1).drop_ 1⟩
end Go.Proofs.YtbgnggkgmeagkaaGreatDoor
namespace Go.Proofs.YtbgnggkgmeagkaaGreatDoor
open Go.RowKit Go.Shelf
attribute [local go_sem] Oper.semAt_some
/-- The loop's record. -/
def lopA (l : Nat) (r : Loop) : Atom := ⟨fun k => k = l, fun w => w.heap[l]? = some (.loop r), fun _ _ _ hk hS hl h => (hk.block l (hl l rfl) (hS l rfl)).trans h⟩
theorem Sep.lop {w : World} {L : List Atom} {l i : Nat} {r : Loop} (h : Sep w L) (hi : L[i]? = some (lopA l r)) : w.heap[l]? = some (.loop r) := h.get hi
theorem Sep.setLop {w : World} {L : List Atom} {l i : Nat} {r : Loop} (h : Sep w L) (hi : L[i]? = some (lopA l r)) (r' : Loop) : Sep (w.putObj l (.loop r')) (L.set i (lopA l r')) := by
  have hg := grownBy_putObj' w l (.loop r')
  have hlt := (Array.getElem?_eq_some_iff.1 (h.lop hi)).1
  refine h.upd hi (show Keep (fun k => k = l) _ _ from ⟨hg.os, hg.tape, hg.output, hg.size, fun k hk hn => hg.block k hk (fun e => hn (by cases e; rfl))⟩) (World.putObj_heap_same hlt) ?_ (fun k hk => .inl hk)
  rintro k rfl
  exact Nat.lt_of_lt_of_le hlt hg.size
set_option maxRecDepth 100000 in
set_option maxHeartbeats 4000000 in
/-- The iterator over four bytes: one piece. -/
theorem chunkH_in (n : Nat) (hn : 1 ≤ n) (l Bs Bn b off cap : Nat) (hlc : 4 ≤ cap) (T : World → Prop) (W : World) (hs : W.cell? ⟨Bs, 0, none⟩ = some (.slice (some ⟨b, off, none⟩) 4 cap)) (hn4 : W.cell? ⟨Bn, 0, none⟩ = some (.int .i64 100))
    (hY : YieldAt Fence.wide (n - 1) Tryz.prog l #[.slice (some ⟨b, off, none⟩) 4 4] W.drew fun e W' => e = .returned (.bool true) ∧ T W' ∧ W'.cell? ⟨Bs, 0, none⟩ = some (.slice (some ⟨b, off, none⟩) 4 cap) ∧ W'.cell? ⟨Bn, 0, none⟩ = some (.int .i64 100)) :
    CallsIn Fence.wide n Tryz.prog 159 (#[.func (.yield l) #[] #[]] ++ #[.pointer (some ⟨Bs, 0, none⟩), .pointer (some ⟨Bn, 0, none⟩)]) W fun e W' => (∃ v, e = .returned v) ∧ T W' := by
  have hl1 := World.block_lt_of_cell? W _ hs
  have hl2 := World.block_lt_of_cell? W _ hn4
  obtain ⟨fn, tmps, assign, body, hy, hR⟩ := hY
  have HRR := Lib.hid hR
  have hmin : (min 100 4 : Int) = 4 := by decide
  have hmx : Tryz.prog.follows .mixedOrders = true := by kernel_rfl
  clear hR
  refine callsIn_of_wp Tryz.func159 rfl trivial ?_ rfl
  simp only [Tryz.ntmps159, List.size_toArray, List.length_cons, List.length_nil, Nat.reduceAdd, Nat.reduceSub, Array.replicate_succ, Array.replicate_zero, List.push_toArray, List.append_toArray, List.nil_append, List.cons_append]
  gi_wp2
  refine wpIn_loop_rounds 2 ?_
  rw [roundsIn_succ]
  gi_wp2
  gi_region
  all_goals gi_wp2
  all_goals
    refine HRR.out.mono ?_
    rintro e W3 ⟨rfl, hT3, t1, t2⟩
    have hm1 := World.block_lt_of_cell? W3 _ t1
    have hm2 := World.block_lt_of_cell? W3 _ t2
    have HT3 := Lib.hid hT3
    clear hs hn4 hl1 hl2 hT3 hy
    gi_wp2
    rw [roundsIn_succ]
    gi_wp2
    go_end0
    exact ⟨⟨_, rfl⟩, HT3.out⟩
set_option maxRecDepth 100000 in
set_option maxHeartbeats 4000000 in
/-- The loop: its body is walked once. -/
theorem chunkH_loop {n : Nat} (hn : 3 ≤ n) {g : Operand} {p : Tmp} {assign body : Code} {Q : Exit → Act → World → Prop} {a : Act} {w : World} {L : List Atom} {Bs Bn b off cap : Nat} {t1 t2 : TypeId} (hcap : 4 ≤ cap)
    (hg : a.eval g = .func (.func 159) #[] #[.pointer (some ⟨Bs, 0, none⟩), .pointer (some ⟨Bn, 0, none⟩)])
    (h : Sep w (blkA Bs t1 #[.slice (some ⟨b, off, none⟩) 4 cap] :: blkA Bn t2 #[.int .i64 100] :: L)) (a₁ : Act)
    (hassign : ∀ (l : Nat) (W : World) (K : Act → World → Prop), K a₁ W → assign.wpIn (Fence.wide.inRound l) (n - 1 - 1) Tryz.prog (Exit.then K (fun _ _ _ => False)) { tmps := a.tmps.setIfInBounds p (.slice (some ⟨b, off, none⟩) 4 4), defers := [] } W)
    (R : List Atom → Prop)
    (hbody : ∀ (l D : Nat) (r : Loop) (W : World), Sep W (defA D :: lopA l r :: blkA Bs t1 #[.slice (some ⟨b, off, none⟩) 4 cap] :: blkA Bn t2 #[.int .i64 100] :: L) →
      body.wpIn (Fence.wide.inRound l) (n - 1 - 1) Tryz.prog (fun e _ W' => e = .normal ∧ ∃ M, R M ∧ Sep W' (defA D :: lopA l r :: blkA Bs t1 #[.slice (some ⟨b, off, none⟩) 4 cap] :: blkA Bn t2 #[.int .i64 100] :: M)) a₁ W)
    (hdone : ∀ (D : Nat) (W : World) (M : List Atom), R M → Sep W (defA D :: M) → Q .normal { a with defers := { target := .collected D, args := #[] } :: a.defers } W) :
    (Code.rangeFunc g #[p] assign body).wpIn Fence.wide n Tryz.prog Q a w := by
  refine wpIn_rangeFunc ?_
  intro fn hfn
  obtain ⟨rec, hrec⟩ : ∃ rec : LoopState → Option Code → Loop, rec = fun st pe => { state := st, pending := pe, fn, tmps := a.tmps, params := #[p], assign, body, defers := w.heap.size } := ⟨_, rfl⟩
  obtain ⟨W1, hW1⟩ : ∃ W1, (w.alloc (.deferred (some []))).alloc (.loop (rec .ready none)) = W1 := ⟨_, rfl⟩
  have hL1 : W1.heap[w.heap.size + 1]? = some (.loop (rec .ready none)) := by
    rw [← hW1]; have := World.alloc_heap_new (w.alloc (.deferred (some []))) (.loop (rec .ready none)); rwa [World.size_alloc] at this
  have hK1 : W1.heap[w.heap.size]? = some (.deferred (some [])) := by
    rw [← hW1]; exact (Below.heap_alloc _ _ _ (by simp)).trans (World.alloc_heap_new w _)
  have hb1 : Below w.heap.size w W1 := by
    rw [← hW1]; exact ((Below.refl _ w).alloc (Nat.le_refl _) _).alloc (by simp) _
  have hsz : W1.heap.size = w.heap.size + 2 := by rw [← hW1]; simp
  obtain ⟨l, hl⟩ : ∃ l, w.heap.size + 1 = l := ⟨_, rfl⟩
  have hS1 : Sep W1 (defA w.heap.size :: lopA l (rec .ready none) :: blkA Bs t1 #[.slice (some ⟨b, off, none⟩) 4 cap] :: blkA Bn t2 #[.int .i64 100] :: L) := by
    have h1 : Sep W1 (lopA l (rec .ready none) :: blkA Bs t1 #[.slice (some ⟨b, off, none⟩) 4 cap] :: blkA Bn t2 #[.int .i64 100] :: L) :=
      h.new hb1 (by subst hl; exact hL1) (by rintro k rfl; subst hl; exact ⟨Nat.le_succ _, by omega⟩)
    exact ⟨fun c hc => (List.mem_cons.1 hc).elim (fun e => by subst e; exact ⟨hK1, by rintro k rfl; omega⟩) (h1.all c), List.pairwise_cons.2 ⟨fun c hc k hk hk2 => by
      cases hk
      rcases List.mem_cons.1 hc with rfl | hc
      · have hk2 : w.heap.size = l := hk2
        omega
      · have := (h.all c hc).2 _ hk2
        omega, h1.apart⟩⟩
  rw [hl] at hL1
  refine ⟨l, [{ target := .collected w.heap.size, args := #[] }], W1, { target := .fn (.func 159) #[.pointer (some ⟨Bs, 0, none⟩), .pointer (some ⟨Bn, 0, none⟩)], args := #[.func (.yield l) #[] #[]] }, W1, 159,
    #[.func (.yield l) #[] #[]] ++ #[.pointer (some ⟨Bs, 0, none⟩), .pointer (some ⟨Bn, 0, none⟩)], W1, ?_, ?_, ?_, ?_, fun _ => by omega, ?_⟩
  · rw [← hW1, hrec, ← hl]; exact run_enterLoop_outer _ _ _ _ _
  · simp only [resolve, hg]
    simp [go_sem]
  · intro f' hf'; simp [Target.leads] at hf'; subst hf'; exact trivial
  · simp [invoke, go_sem, enters_of Tryz.func159 (by kernel_rfl) rfl]
  · refine (chunkH_in (n - 1) (by omega) l Bs Bn b off cap hcap (fun W' => ∃ M, R M ∧ Sep W' (defA w.heap.size :: lopA l (rec .ready none) :: blkA Bs t1 #[.slice (some ⟨b, off, none⟩) 4 cap] :: blkA Bn t2 #[.int .i64 100] :: M)) W1 ((hS1.at_ (i := 2) rfl).1 0) ((hS1.at_ (i := 3) rfl).1 0) ?_).mono ?_
    · have hS2 := hS1.drew
      have hL2 := hS2.lop (i := 1) rfl
      have hy := run_yield (P := Tryz.prog) (args := #[.slice (some ⟨b, off, none⟩) 4 4]) hL2 (by rw [hrec]; rfl)
      have hgo := run_beginRound (P := Tryz.prog) hL2 (by rw [hrec])
      have hS3 := hS2.setLop (i := 1) rfl { rec .ready none with state := .busy }
      rw [hrec] at hy hgo hS3
      refine ⟨fn, a.tmps.setIfInBounds p (.slice (some ⟨b, off, none⟩) 4 4), assign, body, by simpa using hy, roundIn_of_wpIn hfn (hassign l _ _ ⟨_, hgo, ?_⟩)⟩
      refine wpIn_mono (hbody l w.heap.size _ _ hS3) ?_
      rintro e a3 W3 ⟨rfl, M, hM, hS⟩
      have hS4 := hS.setLop (i := 1) rfl (rec .ready none)
      have hr : (Instr.endRound l none).run Tryz.prog W3 = .ok (.bool true) (W3.putObj l (.loop (rec .ready none))) := by
        have := run_endRound (P := Tryz.prog) none (hS.lop (i := 1) rfl)
        rw [hrec]
        exact this
      exact ⟨_, _, hr, rfl, ⟨M, hM, hS4⟩, (hS4.at_ (i := 2) rfl).1 0, (hS4.at_ (i := 3) rfl).1 0⟩
    · rintro e W2 ⟨⟨v, rfl⟩, M, hM, hS⟩
      have hr := run_endLoop (P := Tryz.prog) (hS.lop (i := 1) rfl) (by rw [hrec]; simp)
      rw [hrec] at hr
      refine ⟨none, _, hr, hdone _ _ M hM ?_⟩
      have h9 := hS.setLop (i := 1) rfl { rec .ready none with state := .exhausted }
      rw [hrec] at h9
      exact ((h9.drop_ 1).drop_ 1).drop_ 1
end Go.Proofs.YtbgnggkgmeagkaaGreatDoor
