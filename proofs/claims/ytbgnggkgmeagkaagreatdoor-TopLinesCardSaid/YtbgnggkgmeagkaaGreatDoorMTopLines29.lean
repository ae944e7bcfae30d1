/-
  A connection hears a piece: too short for a frame; one frame is whole. Condition: the pieces are short; what a frame does is given.
  gate.Feed, where what comes holds one event, or none. Conditions: contracts of what it calls.
  A connection hears a body with the end; the answer to its settings; more of its window. Condition: the first stream.
  A connection hears a frame of a body, an answer to its settings, more of its window. Condition: the first stream.
  gate.Feed at the pieces of the closed run that bring no event. Conditions: the bytes are those of the run.
  A connection hears a frame of a head. Condition: the first stream; no stream was seen.
  line's reader: head, where "coding: chunked" stands. Condition: the bound on the bytes.
-/
import Derived.Test.YtbgnggkgmeagkaaGreatDoorMTopLines27
import Derived.Test.YtbgnggkgmeagkaaGreatDoorMTopLines28
import Derived.Test.YtbgnggkgmeagkaaGreatDoorMTopLines21
set_option linter.unusedSimpArgs false
set_option linter.unusedVariables false
namespace Go.Proofs.YtbgnggkgmeagkaaGreatDoor
open Go.RowKit
set_option maxRecDepth 100000 in
set_option maxHeartbeats 2000000 in
theorem nf_short {w : World} {F : List Atom} {kb C S M n c k bc : Nat} {A B : Option Addr} {ord out part evs : Value} {xs ys : List UInt8} {iw ow un : Int} {began : Bool}
    (hn : n = xs.length) (hk : k = ys.length) (hs : n + k ≤ 1000) (hB : ∀ w', Sep w' F → Reads w' w'.heap.size 1 B k (bs ys)) (hS : frmR (xs ++ ys) = (frm0, 0, 8))
    (h : Sep w (blkA kb 200 (conV C S M ord (.slice A n c) out iw ow un began part evs) :: rowA 5 1 (.slice A n c) n (bs xs) :: F)) :
    Calls Tryz.prog 111 #[.pointer (some ⟨kb, 0, none⟩), .slice B k bc] w fun e w' => e = .returned (.slice none 0 0) ∧
      ∃ A' c', Sep w' (blkA kb 200 (conV C S M ord (.slice A' (n + k) c') out iw ow un began part (.slice none 0 0)) :: rowA 5 1 (.slice A' (n + k) c') (n + k) (bs (xs ++ ys)) :: F) := by
  have kK := h.at_ (i := 0) rfl
  have HR := Lib.hid (hB _ h.tail.tail)
  have H := Lib.hid h
  have HN := Lib.hid hn
  have HK := Lib.hid hk
  have HS := Lib.hid hS
  unfold conV at kK
  clear h hB hS hn hk
  go_enter Tryz.func111, Tryz.ntmps111
  go_wp2_with (at_builtin; refine wpList_joinS (i := 1) rfl _ _ rfl _ n (bs xs) H.out rfl rfl _ _ _ _ HR.out rfl (by omega) ?_; intro A2 c2 w2 h2 _; have hK2 := h2.at_ (i := 0) rfl; have H2 := Lib.hid h2; unfold conV at hK2; clear h2 kK)
  refine wp_loop_rounds 1 ?_
  rw [rounds_succ]
  go_wp2_with fail
  obtain ⟨w3, hw3⟩ : ∃ w3, (w2.setCell ⟨kb, 4, none⟩ (.slice A2 (n + k) c2)).setCell ⟨kb, 13, none⟩ (.slice none 0 0) = w3 := ⟨_, rfl⟩
  have h3 := (H2.out.set_ (i := 0) rfl 4 (.slice A2 (n + k) c2)).set_ (i := 0) rfl 13 (.slice none 0 0)
  rw [hw3] at h3 ⊢
  change Sep w3 (blkA kb _ (conV C S M ord (.slice A2 (n + k) c2) out iw ow un began part (.slice none 0 0)) :: rowA _ 1 _ (n + k) (bs xs ++ bs ys) :: F) at h3
  rw [← bs_append] at h3
  have hl : (xs ++ ys).length = n + k := by rw [List.length_append, ← HN.out, ← HK.out]
  refine (fread_any (xs ++ ys) A2 (n + k) c2 hl.symm (by rw [hl]; exact h3.cap (i := 1) rfl) (by omega) w3 (by rw [hl]; exact reads_sep h3 (i := 1) rfl)).mono ?_
  rintro e w4 ⟨v, rfl, A4, c4, rfl, -, hb4⟩
  rw [HS.out, errV_pos (by decide)]
  have h4 := (h3.below hb4).newBlk 134 #[.int .i64 0, .int .i64 0, .int .i64 0, .slice A4 0 c4]
  have kK := h4.at_ (i := 1) rfl
  have H4 := Lib.hid h4.tail
  have qe := eq_short
  have qe2 := eq_8nil
  have qe3 := eq_8_4
  unfold conV at kK
  clear hK2 h3 h4 hb4 hw3 hl
  unfold frV frm0
  go_wp2
  go_ret
  exact ⟨rfl, A2, c2, H4.out⟩
set_option maxRecDepth 100000 in
set_option maxHeartbeats 4000000 in
theorem nf_one {w : World} {F : List Atom} {kb C S M n c k bc u z : Nat} {A B : Option Addr} {ord out part evs : Value} {xs ys : List UInt8} {iw ow un : Int} {began : Bool} (f : Frm) (zs : List UInt8)
    (hn : n = xs.length) (hk : k = ys.length) (hs : n + k ≤ 1000) (hB : ∀ w', Sep w' F → Reads w' w'.heap.size 1 B k (bs ys)) (hS : frmR (xs ++ ys) = (f, u, 0)) (hu : u ≤ n + k) (hu0 : 0 < n + k) (hz : (xs ++ ys).drop u = zs) (hzl : z = zs.length) (hS2 : frmR zs = (frm0, 0, 8))
    (R : Value → Value → Int → Int → Int → Bool → Value → Value → List Atom → Prop)
    (hH : ∀ (w1 : World) (A1 BA : Option Addr) (c1 b1 : Nat), Sep w1 (blkA kb 200 (conV C S M ord (.slice A1 z c1) out iw ow un began part (.slice none 0 0)) :: rowA 5 1 (.slice A1 z c1) z (bs zs) :: rowA 5 1 (.slice BA f.body.length b1) f.body.length (bs f.body) :: F) →
      Calls Tryz.prog 162 #[.pointer (some ⟨kb, 0, none⟩), frV f BA b1] w1 fun e w' => e = .returned (.tuple #[]) ∧ ∃ ord out iw ow un began part evs G, R ord out iw ow un began part evs G ∧
        Sep w' (blkA kb 200 (conV C S M ord (.slice A1 z c1) out iw ow un began part evs) :: rowA 5 1 (.slice A1 z c1) z (bs zs) :: G))
    (h : Sep w (blkA kb 200 (conV C S M ord (.slice A n c) out iw ow un began part evs) :: rowA 5 1 (.slice A n c) n (bs xs) :: F)) :
    Calls Tryz.prog 111 #[.pointer (some ⟨kb, 0, none⟩), .slice B k bc] w fun e w' =>
      ∃ ord out iw ow un began part evs G A' c', e = .returned evs ∧ R ord out iw ow un began part evs G ∧ Sep w' (blkA kb 200 (conV C S M ord (.slice A' z c') out iw ow un began part evs) :: rowA 5 1 (.slice A' z c') z (bs zs) :: G) := by
  subst hzl
  have kK := h.at_ (i := 0) rfl
  have HR := Lib.hid (hB _ h.tail.tail)
  have H := Lib.hid h
  have HN := Lib.hid hn
  have HK := Lib.hid hk
  have HS := Lib.hid hS
  have HS2 := Lib.hid hS2
  have HZ := Lib.hid hz
  have HH := Lib.hid hH
  unfold conV at kK
  clear h hB hS hn hk hS2 hz hH
  go_enter Tryz.func111, Tryz.ntmps111
  go_wp2_with (at_builtin; refine wpList_joinS (i := 1) rfl _ _ rfl _ n (bs xs) H.out rfl rfl _ _ _ _ HR.out rfl (by omega) ?_; intro A2 c2 w2 h2 _; have hK2 := h2.at_ (i := 0) rfl; have H2 := Lib.hid h2; unfold conV at hK2; clear h2 kK)
  refine wp_loop_rounds 2 ?_
  rw [rounds_succ]
  go_wp2_with fail
  obtain ⟨w3, hw3⟩ : ∃ w3, (w2.setCell ⟨kb, 4, none⟩ (.slice A2 (n + k) c2)).setCell ⟨kb, 13, none⟩ (.slice none 0 0) = w3 := ⟨_, rfl⟩
  have h3 := (H2.out.set_ (i := 0) rfl 4 (.slice A2 (n + k) c2)).set_ (i := 0) rfl 13 (.slice none 0 0)
  rw [hw3] at h3 ⊢
  change Sep w3 (blkA kb _ (conV C S M ord (.slice A2 (n + k) c2) out iw ow un began part (.slice none 0 0)) :: rowA _ 1 _ (n + k) (bs xs ++ bs ys) :: F) at h3
  rw [← bs_append] at h3
  have hl : (xs ++ ys).length = n + k := by rw [List.length_append, ← HN.out, ← HK.out]
  obtain ⟨g2, rfl, -⟩ := h3.rowAt (i := 1) rfl hu0
  have hc2 := h3.cap (i := 1) rfl
  have HL := Lib.hid hl
  refine (fread_any (xs ++ ys) (some ⟨g2, 0, none⟩) (n + k) c2 hl.symm (by rw [hl]; exact hc2) (by omega) w3 (by rw [hl]; exact reads_sep h3 (i := 1) rfl)).mono ?_
  rintro e w4 ⟨v, rfl, A4, c4, rfl, hown4, hb4⟩
  rw [HS.out] at hown4 ⊢
  rw [errV_zero]
  have h4 := (h3.newRow hb4 hown4).newBlk 134 #[.int .i64 f.K, .int .i64 f.F, .int .i64 f.S, .slice A4 f.body.length c4]
  have kX := h4.at_ (i := 0) rfl
  have kK := h4.at_ (i := 2) rfl
  have hr4 := (reads_sep h4 (i := 3) rfl).cut (k := u) (cap := c2) hu hc2
  rw [Nat.mul_one, bs_drop, HZ.out] at hr4
  have hzn : n + k - u = zs.length := by rw [← HZ.out, List.length_drop, HL.out]
  have HZN := Lib.hid hzn
  rw [hzn] at hr4
  have H4 := Lib.hid h4
  unfold conV at kK
  clear hK2 h3 hb4 hw3 hl hown4 H H2 HR h4 hzn
  unfold frV
  have qe := eq_nil8
  by_cases hcu : c2 = u
  all_goals
    first
      | (rw [if_pos hcu] at hr4; have hr6 := hr4)
      | (rw [if_neg hcu] at hr4; have hr6 : Reads (w4.alloc (.cells #[.int .i64 f.K, .int .i64 f.F, .int .i64 f.S, .slice A4 f.body.length c4] 134)) (w4.alloc (.cells #[.int .i64 f.K, .int .i64 f.F, .int .i64 f.S, .slice A4 f.body.length c4] 134)).heap.size 1 (some ⟨g2, u, none⟩) zs.length (bs zs) := by simpa [Addr.add_lit] using hr4)
    have HC := Lib.hid hr6
    clear hr4 hr6
    go_wp2_with fail
    refine (clone_any _ zs _ _ HZN.out (fun e => by cases e) (by have := HZN.out; omega) _ HC.out).mono ?_
    rintro e w6 ⟨A6, c6, rfl, hown6, hb6⟩
    have h6 := H4.out.newRow hb6 hown6
    clear kK kX HC H4
    have kX := h6.at_ (i := 1) rfl
    have kK := h6.at_ (i := 3) rfl
    have H6 := Lib.hid h6
    unfold conV at kK
    clear h6 hown6 hb6
    go_wp2_with fail
    obtain ⟨w7, hw7⟩ : ∃ w7, w6.setCell ⟨kb, 4, none⟩ (.slice A6 zs.length c6) = w7 := ⟨_, rfl⟩
    have h7 := H6.out.set_ (i := 3) rfl 4 (.slice A6 zs.length c6)
    rw [hw7] at h7 ⊢
    change Sep w7 (_ :: _ :: _ :: blkA kb _ (conV C S M ord (.slice A6 zs.length c6) out iw ow un began part (.slice none 0 0)) :: _) at h7
    clear kK kX H6 hw7
    have h8 := (h7.front 3 rfl).drop_ 2
    have H8 := Lib.hid (h8.drop_ 3)
    clear h7 h8
    refine (HH.out w7 A6 A4 c6 c4 H8.out).mono ?_
    rintro e w9 ⟨rfl, ord', out', iw', ow', un', began', part', evs', G, hR, h9⟩
    have kK := h9.at_ (i := 0) rfl
    have H9 := Lib.hid h9
    have HR9 := Lib.hid hR
    unfold conV at kK
    clear h9 hR H8
    go_wp2_with fail
    rw [rounds_succ]
    go_wp2_with fail
    refine (fread_any zs A6 zs.length c6 rfl (H9.out.cap (i := 1) rfl) (by have := HZN.out; omega) w9 (reads_sep H9.out (i := 1) rfl)).mono ?_
    rintro e w10 ⟨v, rfl, A8, c8, rfl, -, hb8⟩
    rw [HS2.out, errV_pos (by decide)]
    have h10 := (H9.out.below hb8).newBlk 134 #[.int .i64 0, .int .i64 0, .int .i64 0, .slice A8 0 c8]
    clear kK hb8
    have kK := h10.at_ (i := 1) rfl
    have H10 := Lib.hid h10.tail
    have qe1 := eq_short
    have qe2 := eq_8nil
    have qe3 := eq_8_4
    unfold conV at kK
    clear h10
    unfold frV frm0
    go_wp2
    go_ret
    exact ⟨_, _, _, _, _, _, _, _, _, _, _, rfl, HR9.out, H10.out⟩
end Go.Proofs.YtbgnggkgmeagkaaGreatDoor
namespace Go.Proofs.YtbgnggkgmeagkaaGreatDoor
open Go.RowKit Go.Shelf
set_option maxRecDepth 100000 in
set_option maxHeartbeats 1000000 in
theorem cn_over {w : World} {kb : Nat} (h : w.cell? ⟨kb, 11, none⟩ = some (.bool false)) : Calls Tryz.prog 110 #[.pointer (some ⟨kb, 0, none⟩)] w fun e w' => e = .returned (.bool false) ∧ w = w' := by
  have hl := World.block_lt_of_cell? w _ h
  go_enter Tryz.func110, Tryz.ntmps110
  go_wp2
  go_ret
  exact ⟨rfl, rfl⟩
set_option maxRecDepth 100000 in
set_option maxHeartbeats 2000000 in
theorem gf_none {w : World} {g kb k bc : Nat} {B : Option Addr} {P : World → Prop} (hg : w.cell? ⟨g, 0, none⟩ = some (.pointer (some ⟨kb, 0, none⟩))) (ho : w.cell? ⟨kb, 11, none⟩ = some (.bool false))
    (hF : Calls Tryz.prog 111 #[.pointer (some ⟨kb, 0, none⟩), .slice B k bc] w fun e w' => ∃ ea ec, e = .returned (.slice ea 0 ec) ∧ P w') :
    Calls Tryz.prog 59 #[.pointer (some ⟨g, 0, none⟩), .slice B k bc] w fun e w' => e = .returned .nilIface ∧ P w' := by
  have HF := Lib.hid hF
  have HO := Lib.hid (cn_over ho)
  have hl := World.block_lt_of_cell? w _ hg
  clear hF ho
  go_enter Tryz.func59, Tryz.ntmps59
  go_wp2_with fail
  refine HO.out.mono ?_
  rintro e w' ⟨rfl, rfl⟩
  go_wp2_with fail
  refine HF.out.mono ?_
  rintro e w1 ⟨ea, ec, rfl, hP⟩
  have HP := Lib.hid hP
  clear hP hg hl HF HO
  go_wp2_with fail
  refine wp_loop_rounds 1 ?_
  rw [rounds_succ]
  go_wp2
  go_ret
  exact ⟨rfl, HP.out⟩
set_option maxRecDepth 100000 in
set_option maxHeartbeats 2000000 in
theorem gf_one {w : World} {g kb k bc : Nat} {B : Option Addr} (wh st cd : Int) (fn bn : Nat) (en : Bool) {P : Nat → Option Addr → Nat → Option Addr → Nat → World → Prop} {R : World → Prop} (hg : w.cell? ⟨g, 0, none⟩ = some (.pointer (some ⟨kb, 0, none⟩))) (ho : w.cell? ⟨kb, 11, none⟩ = some (.bool false))
    (hF : Calls Tryz.prog 111 #[.pointer (some ⟨kb, 0, none⟩), .slice B k bc] w fun e w' => ∃ ea ec fa fc ba bb, e = .returned (.slice (some ⟨ea, 0, none⟩) 1 ec) ∧ (∀ j, j < 6 → w'.cell? ⟨ea, j, none⟩ = (#[.int .i64 wh, .int .i64 st, .int .i64 cd, .slice fa fn fc, .slice ba bn bb, .bool en] : Array Value)[j]?) ∧ P ea fa fc ba bb w')
    (hE : ∀ ea fa fc ba bb w1, P ea fa fc ba bb w1 → Calls Tryz.prog 112 #[.pointer (some ⟨g, 0, none⟩), .agg #[.int .i64 wh, .int .i64 st, .int .i64 cd, .slice fa fn fc, .slice ba bn bb, .bool en]] (w1.alloc (.cells #[.int .i64 wh, .int .i64 st, .int .i64 cd, .slice fa fn fc, .slice ba bn bb, .bool en] 215)) fun e w' => e = .returned (.tuple #[]) ∧ R w') :
    Calls Tryz.prog 59 #[.pointer (some ⟨g, 0, none⟩), .slice B k bc] w fun e w' => e = .returned .nilIface ∧ R w' := by
  have HF := Lib.hid hF
  have HO := Lib.hid (cn_over ho)
  have HE := Lib.hid hE
  have hl := World.block_lt_of_cell? w _ hg
  clear hF ho hE
  go_enter Tryz.func59, Tryz.ntmps59
  go_wp2_with fail
  refine HO.out.mono ?_
  rintro e w' ⟨rfl, rfl⟩
  go_wp2_with fail
  refine HF.out.mono ?_
  rintro e w1 ⟨ea, ec, fa, fc, ba, bb, rfl, hc, hP⟩
  have HC := Lib.hid (HE.out _ _ _ _ _ _ hP)
  have x0 : w1.cell? ⟨ea, 0, none⟩ = some (.int .i64 wh) := hc 0 (by decide)
  have x1 : w1.cell? ⟨ea, 1, none⟩ = some (.int .i64 st) := hc 1 (by decide)
  have x2 : w1.cell? ⟨ea, 2, none⟩ = some (.int .i64 cd) := hc 2 (by decide)
  have x3 : w1.cell? ⟨ea, 3, none⟩ = some (.slice fa fn fc) := hc 3 (by decide)
  have x4 : w1.cell? ⟨ea, 4, none⟩ = some (.slice ba bn bb) := hc 4 (by decide)
  have x5 : w1.cell? ⟨ea, 5, none⟩ = some (.bool en) := hc 5 (by decide)
  have xl := World.block_lt_of_cell? w1 _ x0
  clear hP hg hl HF HO HE hc
  go_wp2_with fail
  refine wp_loop_rounds 2 ?_
  rw [rounds_succ]
  go_wp2_with fail
  refine (show Calls _ _ _ _ _ from HC.out).mono ?_
  rintro e w2 ⟨rfl, hR⟩
  have HR := Lib.hid hR
  clear hR HC x0 x1 x2 x3 x4 x5 xl
  go_wp2_with fail
  rw [rounds_succ]
  go_wp2
  go_ret
  exact ⟨rfl, HR.out⟩
end Go.Proofs.YtbgnggkgmeagkaaGreatDoor
namespace Go.Proofs.YtbgnggkgmeagkaaGreatDoor
open Go.RowKit Go.Shelf
set_option maxRecDepth 100000 in
set_option maxHeartbeats 4000000 in
theorem cn_data {w : World} {F : List Atom} {kb C S M MS X bc mc sc : Nat} {BA : Option Addr} {ord inn out part : Value} {ow : Int} {began : Bool}
    (h : Sep w (rowA 5 1 (.slice BA 1 bc) 1 (bs [120]) :: blkA kb 200 (conV C S M ord inn out 2000 ow 0 began part (.slice none 0 0)) :: mapA M (ent1 (.pointer (some ⟨X, 0, none⟩))) mc :: blkA X 313 (chnV 2000 2000 0 (.slice none 0 0) false false) ::
      blkA S 254 (stmV MS 1) :: mapA MS (ent1 (.int .i64 1)) sc :: F)) :
    Calls Tryz.prog 215 #[.pointer (some ⟨kb, 0, none⟩), .agg #[.int .i64 0, .int .i64 1, .int .i64 1, .slice BA 1 bc]] w fun e w' => e = .returned (.tuple #[]) ∧ ∃ E ec, Sep w' (blkA kb 200 (conV C S M ord inn out 1999 ow 1 began part (.slice E 1 ec)) ::
      rowA 215 6 (.slice E 1 ec) 1 (evV 2 1 0 (.slice none 0 0) (.slice BA 1 bc) true).toList :: rowA 5 1 (.slice BA 1 bc) 1 (bs [120]) :: mapA M (ent1 (.pointer (some ⟨X, 0, none⟩))) mc :: blkA X 313 (chnV 1999 2000 1 (.slice none 0 0) false false) ::
      blkA S 254 (stmV MS 1) :: mapA MS (ent1 (.int .i64 2)) sc :: F) := by
  have h1 := h.newBlk 134 #[.int .i64 0, .int .i64 1, .int .i64 1, .slice BA 1 bc]
  have kX := h1.at_ (i := 0) rfl
  have H1 := Lib.hid h1
  have b11 : (bits .and .i64 1 1 != 0) = true := by decide
  clear h h1
  go_enter Tryz.func215, Tryz.ntmps215
  go_wp2
  go_quiet (fail)
  obtain ⟨w2, hw2⟩ : ∃ w2, (w.alloc (.cells #[.int .i64 0, .int .i64 1, .int .i64 1, .slice BA 1 bc] 134)).drewN nq = w2 := ⟨_, rfl⟩
  have h2 := H1.out.drewN nq
  rw [hw2] at h2 ⊢
  clear kX H1 hw2
  have kX := h2.at_ (i := 0) rfl
  have kK := h2.at_ (i := 2) rfl
  have H2 := Lib.hid h2
  unfold conV at kK
  clear h2
  go_wp2_with fail
  refine (nc_stop1 H2.out (i := 2) (j := 3) (k := 4) rfl rfl rfl).mono ?_
  rintro e w' ⟨rfl, rfl⟩
  go_wp2_with fail
  refine (sm_state1 H2.out (i := 5) (j := 6) rfl rfl).mono ?_
  rintro e w' ⟨rfl, rfl⟩
  go_wp2_with fail
  refine (st_hear_data w2).mono ?_
  rintro e w' ⟨rfl, rfl⟩
  go_wp2_with fail
  refine (fl_takeS H2.out (i := 2) (b := kb) (o := 6) (n := 2000) (k := 1) rfl rfl (by decide) (by decide)).mono ?_
  rintro e w3 ⟨rfl, h3⟩
  change Sep w3 (_ :: _ :: blkA kb _ (conV C S M ord inn out 1999 ow 0 began part (.slice none 0 0)) :: _) at h3
  clear kX kK
  have kX := h3.at_ (i := 0) rfl
  have kK := h3.at_ (i := 2) rfl
  have kC := h3.at_ (i := 4) rfl
  have n1 := h3.ne_ (i := 2) (i' := 4) rfl rfl (by decide)
  have n2 := Ne.symm n1
  have n3 := h3.ne_ (i := 0) (i' := 4) rfl rfl (by decide)
  have n4 := Ne.symm n3
  have n5 := h3.ne_ (i := 0) (i' := 2) rfl rfl (by decide)
  have n6 := Ne.symm n5
  have H3 := Lib.hid h3
  unfold conV at kK
  unfold chnV at kC
  clear h3
  go_wp2_with fail
  refine (nc_old H3.out (i := 2) (j := 3) rfl rfl).mono ?_
  rintro e w' ⟨rfl, rfl⟩
  go_wp2_with fail
  obtain ⟨w4, hw4⟩ : ∃ w4, (w3.setCell ⟨X, 2, none⟩ (.int .i64 1)).setCell ⟨kb, 9, none⟩ (.int .i64 1) = w4 := ⟨_, rfl⟩
  have h4 := (H3.out.set_ (i := 4) rfl 2 (.int .i64 1)).set_ (i := 2) rfl 9 (.int .i64 1)
  rw [hw4] at h4 ⊢
  change Sep w4 (_ :: _ :: blkA kb _ (conV C S M ord inn out 1999 ow 1 began part (.slice none 0 0)) :: _ :: blkA X _ (chnV 2000 2000 1 (.slice none 0 0) false false) :: _) at h4
  clear kX kK kC n1 n2 n3 n4 n5 n6 hw4
  have kX := h4.at_ (i := 0) rfl
  have kK := h4.at_ (i := 2) rfl
  have H4 := Lib.hid h4
  unfold conV at kK
  clear h4
  refine (fl_takeS H4.out (i := 4) (b := X) (o := 0) (n := 2000) (k := 1) rfl rfl (by decide) (by decide)).mono ?_
  rintro e w5 ⟨rfl, h5⟩
  change Sep w5 (_ :: _ :: _ :: _ :: blkA X _ (chnV 1999 2000 1 (.slice none 0 0) false false) :: _) at h5
  clear kX kK
  have kX := h5.at_ (i := 0) rfl
  have kK := h5.at_ (i := 2) rfl
  have H5 := Lib.hid h5
  unfold conV at kK
  clear h5
  go_wp2_with fail
  refine (sm_put (.inr (.inl ⟨rfl, rfl⟩)) H5.out (i := 5) (j := 6) rfl rfl).mono ?_
  rintro e w6 ⟨rfl, h6⟩
  clear kX kK
  have kX := h6.at_ (i := 0) rfl
  have H6 := Lib.hid (h6.front 2 rfl)
  clear h6
  go_wp2_with fail
  refine (nc_event 2 1 0 none BA 0 0 1 bc true H6.out).mono ?_
  rintro e w7 ⟨rfl, E, ec, h7⟩
  have H7 := Lib.hid h7
  clear h7 H6 H5 H4 H3 H2 kX
  go_wp2
  refine bodyPost_end (results_none rfl _ _ _) rfl ?_
  exact ⟨rfl, E, ec, H7.out.drop_ 2⟩
end Go.Proofs.YtbgnggkgmeagkaaGreatDoor
namespace Go.Proofs.YtbgnggkgmeagkaaGreatDoor
open Go.RowKit Go.Shelf
set_option maxRecDepth 100000 in
set_option maxHeartbeats 4000000 in
theorem cn_hear_data {w : World} {F : List Atom} {kb C S M MS X bc mc sc : Nat} {BA : Option Addr} {ord inn out : Value} {ow : Int}
    (h : Sep w (rowA 5 1 (.slice BA 1 bc) 1 (bs [120]) :: blkA kb 200 (conV C S M ord inn out 2000 ow 0 true (.pointer none) (.slice none 0 0)) :: mapA M (ent1 (.pointer (some ⟨X, 0, none⟩))) mc :: blkA X 313 (chnV 2000 2000 0 (.slice none 0 0) false false) ::
      blkA S 254 (stmV MS 1) :: mapA MS (ent1 (.int .i64 1)) sc :: F)) :
    Calls Tryz.prog 162 #[.pointer (some ⟨kb, 0, none⟩), .agg #[.int .i64 0, .int .i64 1, .int .i64 1, .slice BA 1 bc]] w fun e w' => e = .returned (.tuple #[]) ∧ ∃ E ec, Sep w' (blkA kb 200 (conV C S M ord inn out 1999 ow 1 true (.pointer none) (.slice E 1 ec)) ::
      rowA 215 6 (.slice E 1 ec) 1 (evV 2 1 0 (.slice none 0 0) (.slice BA 1 bc) true).toList :: rowA 5 1 (.slice BA 1 bc) 1 (bs [120]) :: mapA M (ent1 (.pointer (some ⟨X, 0, none⟩))) mc :: blkA X 313 (chnV 1999 2000 1 (.slice none 0 0) false false) ::
      blkA S 254 (stmV MS 1) :: mapA MS (ent1 (.int .i64 2)) sc :: F) := by
  have h1 := h.newBlk 134 #[.int .i64 0, .int .i64 1, .int .i64 1, .slice BA 1 bc]
  have kX := h1.at_ (i := 0) rfl
  have kK := h1.at_ (i := 2) rfl
  have H1 := Lib.hid h1
  unfold conV at kK
  clear h h1
  go_enter Tryz.func162, Tryz.ntmps162
  go_wp2
  go_quiet (fail)
  obtain ⟨w2, hw2⟩ : ∃ w2, (w.alloc (.cells #[.int .i64 0, .int .i64 1, .int .i64 1, .slice BA 1 bc] 134)).drewN nq = w2 := ⟨_, rfl⟩
  have h2 := H1.out.drewN nq
  rw [hw2] at h2 ⊢
  clear kX kK H1 hw2
  have kX := h2.at_ (i := 0) rfl
  have kK := h2.at_ (i := 2) rfl
  have H2 := Lib.hid h2
  unfold conV at kK
  clear h2
  go_wp2_with fail
  refine (chk_str 0 1 BA 1 bc (.inl rfl) w2).mono ?_
  rintro e w3 ⟨rfl, hb3⟩
  have h3 := H2.out.below hb3
  clear kX kK H2 hb3
  have kX := h3.at_ (i := 0) rfl
  have kK := h3.at_ (i := 2) rfl
  have n1 := h3.ne_ (i := 2) (i' := 0) rfl rfl (by decide)
  have n2 := Ne.symm n1
  have H3 := Lib.hid h3
  unfold conV at kK
  clear h3
  go_wp2_with fail
  obtain ⟨w4, hw4⟩ : ∃ w4, w3.setCell ⟨kb, 10, none⟩ (.bool true) = w4 := ⟨_, rfl⟩
  have h4 := H3.out.set_ (i := 2) rfl 10 (.bool true)
  rw [hw4] at h4 ⊢
  change Sep w4 (_ :: _ :: blkA kb _ (conV C S M ord inn out 2000 ow 0 true (.pointer none) (.slice none 0 0)) :: _) at h4
  clear kX kK n1 n2 hw4
  refine (cn_data h4.tail).mono ?_
  rintro e w8 ⟨rfl, E, ec, h8⟩
  have H8 := Lib.hid h8
  clear h4 h8 H3
  go_wp2
  refine bodyPost_end (results_none rfl _ _ _) rfl ?_
  exact ⟨rfl, E, ec, H8.out⟩
set_option maxRecDepth 100000 in
set_option maxHeartbeats 4000000 in
theorem cn_hear_ans {w : World} {F : List Atom} {kb C S M bc : Nat} {BA : Option Addr} {ord inn out evs : Value} {iw ow un : Int}
    (h : Sep w (blkA kb 200 (conV C S M ord inn out iw ow un true (.pointer none) evs) :: F)) :
    Calls Tryz.prog 162 #[.pointer (some ⟨kb, 0, none⟩), .agg #[.int .i64 4, .int .i64 1, .int .i64 0, .slice BA 0 bc]] w fun e w' => e = .returned (.tuple #[]) ∧ Sep w' (blkA kb 200 (conV C S M ord inn out iw ow un true (.pointer none) evs) :: F) := by
  have h1 := h.newBlk 134 #[.int .i64 4, .int .i64 1, .int .i64 0, .slice BA 0 bc]
  have kX := h1.at_ (i := 0) rfl
  have kK := h1.at_ (i := 1) rfl
  have H1 := Lib.hid h1
  have b11 : (bits .and .i64 1 1 != 0) = true := by decide
  unfold conV at kK
  clear h h1
  go_enter Tryz.func162, Tryz.ntmps162
  go_wp2
  go_quiet (fail)
  obtain ⟨w2, hw2⟩ : ∃ w2, (w.alloc (.cells #[.int .i64 4, .int .i64 1, .int .i64 0, .slice BA 0 bc] 134)).drewN nq = w2 := ⟨_, rfl⟩
  have h2 := H1.out.drewN nq
  rw [hw2] at h2 ⊢
  clear kX kK H1 hw2
  have kX := h2.at_ (i := 0) rfl
  have kK := h2.at_ (i := 1) rfl
  have H2 := Lib.hid h2
  unfold conV at kK
  clear h2
  go_wp2_with fail
  refine (chk_set 1 BA bc w2).mono ?_
  rintro e w3 ⟨rfl, hb3⟩
  have h3 := H2.out.below hb3
  clear kX kK H2 hb3
  have kX := h3.at_ (i := 0) rfl
  have kK := h3.at_ (i := 1) rfl
  have n1 := h3.ne_ (i := 1) (i' := 0) rfl rfl (by decide)
  have n2 := Ne.symm n1
  have H3 := Lib.hid (h3.set_ (i := 1) rfl 10 (.bool true))
  unfold conV at kK
  clear h3
  go_wp2
  refine bodyPost_end (results_none rfl _ _ _) rfl ?_
  exact ⟨rfl, H3.out.tail⟩
theorem OrdAt.cons {F : List Atom} {a : Atom} {OA : Option Addr} {oc : Nat} (h : OrdAt F OA oc) : OrdAt (a :: F) OA oc := by
  rcases h with h | ⟨g, i, rfl, hi⟩
  · exact .inl h
  · exact .inr ⟨g, i + 1, rfl, hi⟩
set_option maxRecDepth 100000 in
set_option maxHeartbeats 4000000 in
theorem cn_wide {w : World} {F : List Atom} {kb C S M bc oc : Nat} {BA OA : Option Addr} {inn out part evs : Value} {iw un : Int} {began : Bool} (ho : OrdAt F OA oc)
    (h : Sep w (blkA kb 200 (conV C S M (.slice OA 0 oc) inn out iw 1996 un began part evs) :: rowA 5 1 (.slice BA 4 bc) 4 (bs [0, 0, 0, 4]) :: F)) :
    Calls Tryz.prog 217 #[.pointer (some ⟨kb, 0, none⟩), .agg #[.int .i64 7, .int .i64 0, .int .i64 0, .slice BA 4 bc]] w fun e w' => e = .returned (.tuple #[]) ∧ Sep w' (blkA kb 200 (conV C S M (.slice OA 0 oc) inn out iw 2000 un began part evs) :: F) := by
  have h1 := h.newBlk 134 #[.int .i64 7, .int .i64 0, .int .i64 0, .slice BA 4 bc]
  have kX := h1.at_ (i := 0) rfl
  have HR := Lib.hid (reads_sep h1 (i := 2) rfl)
  have H1 := Lib.hid h1
  clear h h1
  go_enter Tryz.func217, Tryz.ntmps217
  go_wp2_with fail
  refine (word4 BA 4 bc rfl _ HR.out).mono ?_
  rintro e w2 ⟨rfl, hb2⟩
  have h2 := H1.out.below hb2
  clear kX
  have kX := h2.at_ (i := 0) rfl
  have H2 := Lib.hid h2
  clear h2 hb2 H1 HR
  go_wp2_with fail
  refine (fl_giveS H2.out (i := 1) (b := kb) (o := 7) (n := 1996) rfl rfl (by decide)).mono ?_
  rintro e w3 ⟨rfl, h3⟩
  change Sep w3 (_ :: blkA kb _ (conV C S M (.slice OA 0 oc) inn out iw 2000 un began part evs) :: _) at h3
  have H3 := Lib.hid h3.tail
  clear h3 H2 kX
  go_wp2_with fail
  refine (np_none ho.cons H3.out).mono ?_
  rintro e w4 ⟨rfl, h4⟩
  have H4 := Lib.hid h4
  clear h4 H3 ho
  go_wp2
  refine bodyPost_ret (results_none rfl _ _ _) rfl ?_
  exact ⟨rfl, H4.out.drop_ 1⟩
set_option maxRecDepth 100000 in
set_option maxHeartbeats 4000000 in
theorem cn_hear_wide {w : World} {F : List Atom} {kb C S M bc oc : Nat} {BA OA : Option Addr} {inn out evs : Value} {iw un : Int} (ho : OrdAt F OA oc)
    (h : Sep w (blkA kb 200 (conV C S M (.slice OA 0 oc) inn out iw 1996 un true (.pointer none) evs) :: rowA 5 1 (.slice BA 4 bc) 4 (bs [0, 0, 0, 4]) :: F)) :
    Calls Tryz.prog 162 #[.pointer (some ⟨kb, 0, none⟩), .agg #[.int .i64 7, .int .i64 0, .int .i64 0, .slice BA 4 bc]] w fun e w' => e = .returned (.tuple #[]) ∧ Sep w' (blkA kb 200 (conV C S M (.slice OA 0 oc) inn out iw 2000 un true (.pointer none) evs) :: F) := by
  have h1 := h.newBlk 134 #[.int .i64 7, .int .i64 0, .int .i64 0, .slice BA 4 bc]
  have kX := h1.at_ (i := 0) rfl
  have kK := h1.at_ (i := 1) rfl
  have H1 := Lib.hid h1
  have HO := Lib.hid ho
  unfold conV at kK
  clear h h1 ho
  go_enter Tryz.func162, Tryz.ntmps162
  go_wp2
  go_quiet (fail)
  obtain ⟨w2, hw2⟩ : ∃ w2, (w.alloc (.cells #[.int .i64 7, .int .i64 0, .int .i64 0, .slice BA 4 bc] 134)).drewN nq = w2 := ⟨_, rfl⟩
  have h2 := H1.out.drewN nq
  rw [hw2] at h2 ⊢
  clear kX kK H1 hw2
  have kX := h2.at_ (i := 0) rfl
  have kK := h2.at_ (i := 1) rfl
  have HR := Lib.hid (reads_sep h2 (i := 2) rfl)
  have H2 := Lib.hid h2
  unfold conV at kK
  clear h2
  go_wp2_with fail
  refine (chk_wide 0 BA bc w2 HR.out).mono ?_
  rintro e w3 ⟨rfl, hb3⟩
  have h3 := H2.out.below hb3
  clear kX kK H2 hb3 HR
  have kX := h3.at_ (i := 0) rfl
  have kK := h3.at_ (i := 1) rfl
  have n1 := h3.ne_ (i := 1) (i' := 0) rfl rfl (by decide)
  have n2 := Ne.symm n1
  have H3 := Lib.hid h3
  unfold conV at kK
  clear h3
  go_wp2_with fail
  obtain ⟨w4, hw4⟩ : ∃ w4, w3.setCell ⟨kb, 10, none⟩ (.bool true) = w4 := ⟨_, rfl⟩
  have h4 := H3.out.set_ (i := 1) rfl 10 (.bool true)
  rw [hw4] at h4 ⊢
  change Sep w4 (_ :: blkA kb _ (conV C S M (.slice OA 0 oc) inn out iw 1996 un true (.pointer none) evs) :: _) at h4
  clear kX kK n1 n2 hw4
  refine (cn_wide HO.out h4.tail).mono ?_
  rintro e w8 ⟨rfl, h8⟩
  have H8 := Lib.hid h8
  clear h4 h8 H3
  go_wp2
  refine bodyPost_end (results_none rfl _ _ _) rfl ?_
  exact ⟨rfl, H8.out⟩
end Go.Proofs.YtbgnggkgmeagkaaGreatDoor
namespace Go.Proofs.YtbgnggkgmeagkaaGreatDoor
open Go.RowKit Go.Shelf
theorem piece_in {F : List Atom} {i b n c : Nat} {l : List UInt8} (hi : F[i]? = some (rowA 5 1 (.slice (some ⟨b, 0, none⟩) n c) n (bs l))) (o k : Nat) (ys : List UInt8) (hy : (l.drop o).take k = ys) (ho : o + k ≤ n) (hk : 0 < k) :
    ∀ w', Sep w' F → Reads w' w'.heap.size 1 (some ⟨b, o, none⟩) k (bs ys) := by
  intro w' h
  have h1 := (reads_sep h hi).cut (k := o) (by omega) (h.cap hi)
  have hc := h.cap hi
  rw [Nat.mul_one, bs_drop, if_neg (by omega), show (some (⟨b, 0, none⟩ : Addr)).map (fun a => a.add o) = some ⟨b, o, none⟩ by simp [Addr.add_lit]] at h1
  have h2 := h1.take (k := k) (by omega)
  rw [bs_take, hy] at h2
  exact h2
theorem gf_short {w : World} {F : List Atom} {g kb C S M n c k bc Li St CM JM : Nat} {A B : Option Addr} {Rt log ord out part evs : Value} {xs ys : List UInt8} {iw ow un last : Int} {began : Bool}
    (hn : n = xs.length) (hk : k = ys.length) (hs : n + k ≤ 1000) (hB : ∀ w', Sep w' F → Reads w' w'.heap.size 1 B k (bs ys)) (hS : frmR (xs ++ ys) = (frm0, 0, 8))
    (h : Sep w (blkA g 120 (gatV kb Rt Li St CM JM last log) :: blkA kb 200 (conV C S M ord (.slice A n c) out iw ow un began part evs) :: rowA 5 1 (.slice A n c) n (bs xs) :: F)) :
    Calls Tryz.prog 59 #[.pointer (some ⟨g, 0, none⟩), .slice B k bc] w fun e w' => e = .returned .nilIface ∧
      ∃ A' c', Sep w' (blkA g 120 (gatV kb Rt Li St CM JM last log) :: blkA kb 200 (conV C S M ord (.slice A' (n + k) c') out iw ow un began part (.slice none 0 0)) :: rowA 5 1 (.slice A' (n + k) c') (n + k) (bs (xs ++ ys)) :: F) := by
  refine gf_none ((h.at_ (i := 0) rfl).1 0) ((h.at_ (i := 1) rfl).1 11) ((nf_short hn hk hs (fun w' hw => hB w' hw.tail) hS ((h.front 2 rfl).front 2 rfl)).mono ?_)
  rintro e w' ⟨rfl, A', c', h'⟩
  exact ⟨none, 0, rfl, A', c', h'.front 2 rfl⟩
/-- The first frame: what it sets. -/
theorem gf_set {w : World} {F : List Atom} {g kb C S M n c k bc z Li St CM JM : Nat} {A B : Option Addr} {Rt log evs : Value} {xs ys : List UInt8} {iw ow un last : Int} {began : Bool} (zs : List UInt8) (u : Nat)
    (hn : n = xs.length) (hk : k = ys.length) (hs : n + k ≤ 1000) (hB : ∀ w', Sep w' F → Reads w' w'.heap.size 1 B k (bs ys)) (hS : frmR (xs ++ ys) = (⟨4, 0, 0, []⟩, u, 0)) (hu : u ≤ n + k) (hu0 : 0 < n + k) (hz : (xs ++ ys).drop u = zs) (hzl : z = zs.length) (hS2 : frmR zs = (frm0, 0, 8))
    (h : Sep w (blkA g 120 (gatV kb Rt Li St CM JM last log) :: blkA kb 200 (conV C S M (.slice none 0 0) (.slice A n c) (.slice none 0 0) iw ow un began (.pointer none) evs) :: rowA 5 1 (.slice A n c) n (bs xs) :: F)) :
    Calls Tryz.prog 59 #[.pointer (some ⟨g, 0, none⟩), .slice B k bc] w fun e w' => e = .returned .nilIface ∧
      ∃ A' c' OA oc, Sep w' (blkA g 120 (gatV kb Rt Li St CM JM last log) :: blkA kb 200 (conV C S M (.slice none 0 0) (.slice A' z c') (.slice OA 9 oc) iw ow un true (.pointer none) (.slice none 0 0)) :: rowA 5 1 (.slice A' z c') z (bs zs) :: rowA 5 1 (.slice OA 9 oc) 9 (bs setEB) :: F) := by
  refine gf_none ((h.at_ (i := 0) rfl).1 0) ((h.at_ (i := 1) rfl).1 11) ((nf_one ⟨4, 0, 0, []⟩ zs hn hk hs (fun w' hw => hB w' hw.tail) hS hu hu0 hz hzl hS2
    (fun ord' out' iw' ow' un' began' part' evs' G => ∃ OA oc, ord' = .slice none 0 0 ∧ out' = .slice OA 9 oc ∧ iw' = iw ∧ ow' = ow ∧ un' = un ∧ began' = true ∧ part' = .pointer none ∧ evs' = .slice none 0 0 ∧ G = rowA 5 1 (.slice OA 9 oc) 9 (bs setEB) :: blkA g 120 (gatV kb Rt Li St CM JM last log) :: F) ?_ ((h.front 2 rfl).front 2 rfl)).mono ?_)
  · intro w1 A1 BA c1 b1 h1
    have h2 := (h1.nilRow 5 1).front 1 rfl
    refine (cn_hear_set (n := 0) (xs := []) (by decide) h2).mono ?_
    rintro e w' ⟨rfl, A', c', h'⟩
    refine ⟨rfl, _, _, _, _, _, _, _, _, _, ⟨A', c', rfl, rfl, rfl, rfl, rfl, rfl, rfl, rfl, rfl⟩, ?_⟩
    exact ((h'.drop_ 3).front 2 rfl).front 1 rfl
  · rintro e w' ⟨_, _, _, _, _, _, _, _, _, A', c', rfl, ⟨OA, oc, rfl, rfl, rfl, rfl, rfl, rfl, rfl, rfl, rfl⟩, h'⟩
    exact ⟨none, 0, rfl, A', c', OA, oc, h'.front 3 rfl⟩
end Go.Proofs.YtbgnggkgmeagkaaGreatDoor
namespace Go.Proofs.YtbgnggkgmeagkaaGreatDoor
open Go.RowKit Go.Shelf
set_option maxRecDepth 100000 in
set_option maxHeartbeats 4000000 in
theorem cn_header {w : World} {F : List Atom} {kb C S M MS gg hh bc : Nat} {BA : Option Addr} {ord inn out : Value} {iw ow un : Int} {began : Bool}
    (h : Sep w (rowA 5 1 (.slice BA 8 bc) 8 (bs ablkL) :: blkA kb 200 (conV C S M ord inn out iw ow un began (.pointer none) (.slice none 0 0)) :: mapA M #[] 0 :: blkA S 254 (stmV MS 0) :: mapA MS #[] 0 :: blkA C 93 (coderV gg hh) :: tabA hh none 0 [] 4096 :: F)) :
    Calls Tryz.prog 214 #[.pointer (some ⟨kb, 0, none⟩), .agg #[.int .i64 1, .int .i64 4, .int .i64 1, .slice BA 8 bc]] w fun e w' => e = .returned (.tuple #[]) ∧ ∃ X D dc E ec, Sep w' (blkA kb 200 (conV C S M ord inn out iw ow un began (.pointer none) (.slice E 1 ec)) ::
      rowA 215 6 (.slice E 1 ec) 1 (evV 1 1 0 (.slice D 3 dc) (.slice none 0 0) false).toList :: blkA X 313 (chnV 2000 2000 0 (.slice none 0 0) false false) :: mapA M (ent1 (.pointer (some ⟨X, 0, none⟩))) 1 ::
      blkA S 254 (stmV MS 1) :: mapA MS (ent1 (.int .i64 1)) 1 :: rowA 41 2 (.slice D 3 dc) 3 (fvs askFL) :: blkA C 93 (coderV gg hh) :: F) := by
  have h1 := h.newBlk 134 #[.int .i64 1, .int .i64 4, .int .i64 1, .slice BA 8 bc]
  have kX := h1.at_ (i := 0) rfl
  have kK := h1.at_ (i := 2) rfl
  have h2 := h1.newBlk 307 (partV 1 0 false (.slice none 0 0))
  simp only [World.size_alloc] at h2
  unfold partV at h2
  have kP2 := h2.at_ (i := 0) rfl
  have kX2 := h2.at_ (i := 1) rfl
  have kK2 := h2.at_ (i := 3) rfl
  have n1 : kb ≠ w.heap.size := h2.ne_ (i := 3) (i' := 1) rfl rfl (by decide)
  have n2 := Ne.symm n1
  have n3 : kb ≠ w.heap.size + 1 := h2.ne_ (i := 3) (i' := 0) rfl rfl (by decide)
  have n4 := Ne.symm n3
  have b41 : (bits .and .i64 4 1 != 0) = false := by decide
  have b44 : (bits .and .i64 4 4 != 0) = true := by decide
  have H2 := Lib.hid h2
  unfold conV at kK kK2
  clear h h1 h2
  go_enter Tryz.func214, Tryz.ntmps214
  go_wp2_with fail
  obtain ⟨w3, hw3⟩ : ∃ w3, (((w.alloc (.cells #[.int .i64 1, .int .i64 4, .int .i64 1, .slice BA 8 bc] 134)).alloc (.cells #[.int .i64 1, .int .i64 0, .bool false, .slice none 0 0] 307)).setCell ⟨kb, 12, none⟩ (.pointer (some ⟨w.heap.size + 1, 0, none⟩))).setCell ⟨w.heap.size + 1, 1, none⟩ (.int .i64 1) = w3 := ⟨_, rfl⟩
  have h3 := (H2.out.set_ (i := 3) rfl 12 (.pointer (some ⟨w.heap.size + 1, 0, none⟩))).set_ (i := 0) rfl 1 (.int .i64 1)
  rw [hw3] at h3 ⊢
  obtain ⟨P, hP⟩ : ∃ P, w.heap.size + 1 = P := ⟨_, rfl⟩
  rw [hP] at h3 ⊢
  change Sep w3 (blkA P _ (partV 1 1 false (.slice none 0 0)) :: _ :: _ :: blkA kb _ (conV C S M ord inn out iw ow un began (.pointer (some ⟨P, 0, none⟩)) (.slice none 0 0)) :: _) at h3
  have h4 := h3.nilRow 5 1
  clear kX kK kP2 kX2 kK2 n1 n2 n3 n4 H2 hw3 h3 hP
  have kP := h4.at_ (i := 1) rfl
  have kX := h4.at_ (i := 2) rfl
  have HR := Lib.hid (reads_sep h4.drew (i := 3) rfl)
  have n1 := h4.ne_ (i := 1) (i' := 2) rfl rfl (by decide)
  have n2 := Ne.symm n1
  have H4 := Lib.hid h4.drew
  unfold partV at kP
  clear h4
  go_region_law (refine step_joinA rfl _ _ 23 5 rfl Tryz.underlying23 u8_info rfl (by decide) (by decide) _ 0 [] H4.out (i := 0) rfl (by simp [Act.eval, Act.put]) BA 8 bc (bs ablkL) HR.out (bs_ones _) (by simp [Act.eval, Act.put]) (by decide) ?_; intro A5 c5 w5 h5 _; have kP5 := h5.at_ (i := 1) rfl; have kX5 := h5.at_ (i := 2) rfl; have H5 := Lib.hid h5; unfold partV at kP5; clear h5)
  all_goals
    go_wp2_with fail
    obtain ⟨w6, hw6⟩ : ∃ w6, w5.setCell ⟨P, 3, none⟩ (.slice A5 8 c5) = w6 := ⟨_, rfl⟩
    have h6 := H5.out.set_ (i := 1) rfl 3 (.slice A5 8 c5)
    rw [hw6] at h6 ⊢
    change Sep w6 (rowA _ 1 (.slice A5 8 c5) 8 (bs ablkL) :: blkA P _ (partV 1 1 false (.slice A5 8 c5)) :: _) at h6
    have h7 := ((((((((h6.drop_ 2).drop_ 2).front 1 rfl).front 5 rfl).front 5 rfl).front 5 rfl).front 5 rfl).front 5 rfl)
    have H7 := Lib.hid ((h7.front 7 rfl).front 7 rfl)
    clear kP kX kP5 kX5 n1 n2 HR H4 H5 hw6 h6 h7
    refine (cn_whole H7.out).mono ?_
    rintro e w8 ⟨rfl, X, D, dc, E, ec, h8⟩
    have H8 := Lib.hid h8
    clear h8
    go_wp2
    refine bodyPost_end (results_none rfl _ _ _) rfl ?_
    exact ⟨rfl, X, D, dc, E, ec, H8.out⟩
set_option maxRecDepth 100000 in
set_option maxHeartbeats 4000000 in
theorem cn_hear_head {w : World} {F : List Atom} {kb C S M MS gg hh bc : Nat} {BA : Option Addr} {ord inn out : Value} {iw ow un : Int}
    (h : Sep w (rowA 5 1 (.slice BA 8 bc) 8 (bs ablkL) :: blkA kb 200 (conV C S M ord inn out iw ow un true (.pointer none) (.slice none 0 0)) :: mapA M #[] 0 :: blkA S 254 (stmV MS 0) :: mapA MS #[] 0 :: blkA C 93 (coderV gg hh) :: tabA hh none 0 [] 4096 :: F)) :
    Calls Tryz.prog 162 #[.pointer (some ⟨kb, 0, none⟩), .agg #[.int .i64 1, .int .i64 4, .int .i64 1, .slice BA 8 bc]] w fun e w' => e = .returned (.tuple #[]) ∧ ∃ X D dc E ec, Sep w' (blkA kb 200 (conV C S M ord inn out iw ow un true (.pointer none) (.slice E 1 ec)) ::
      rowA 215 6 (.slice E 1 ec) 1 (evV 1 1 0 (.slice D 3 dc) (.slice none 0 0) false).toList :: blkA X 313 (chnV 2000 2000 0 (.slice none 0 0) false false) :: mapA M (ent1 (.pointer (some ⟨X, 0, none⟩))) 1 ::
      blkA S 254 (stmV MS 1) :: mapA MS (ent1 (.int .i64 1)) 1 :: rowA 41 2 (.slice D 3 dc) 3 (fvs askFL) :: blkA C 93 (coderV gg hh) :: F) := by
  have h1 := h.newBlk 134 #[.int .i64 1, .int .i64 4, .int .i64 1, .slice BA 8 bc]
  have kX := h1.at_ (i := 0) rfl
  have kK := h1.at_ (i := 2) rfl
  have H1 := Lib.hid h1
  unfold conV at kK
  clear h h1
  go_enter Tryz.func162, Tryz.ntmps162
  go_wp2
  go_quiet (fail)
  obtain ⟨w2, hw2⟩ : ∃ w2, (w.alloc (.cells #[.int .i64 1, .int .i64 4, .int .i64 1, .slice BA 8 bc] 134)).drewN nq = w2 := ⟨_, rfl⟩
  have h2 := H1.out.drewN nq
  rw [hw2] at h2 ⊢
  clear kX kK H1 hw2
  have kX := h2.at_ (i := 0) rfl
  have kK := h2.at_ (i := 2) rfl
  have H2 := Lib.hid h2
  unfold conV at kK
  clear h2
  go_wp2_with fail
  refine (chk_str 1 4 BA 8 bc (.inr rfl) w2).mono ?_
  rintro e w3 ⟨rfl, hb3⟩
  have h3 := H2.out.below hb3
  clear kX kK H2 hb3
  have kX := h3.at_ (i := 0) rfl
  have kK := h3.at_ (i := 2) rfl
  have n1 := h3.ne_ (i := 2) (i' := 0) rfl rfl (by decide)
  have n2 := Ne.symm n1
  have H3 := Lib.hid h3
  unfold conV at kK
  clear h3
  go_wp2_with fail
  obtain ⟨w4, hw4⟩ : ∃ w4, w3.setCell ⟨kb, 10, none⟩ (.bool true) = w4 := ⟨_, rfl⟩
  have h4 := H3.out.set_ (i := 2) rfl 10 (.bool true)
  rw [hw4] at h4 ⊢
  change Sep w4 (_ :: _ :: blkA kb _ (conV C S M ord inn out iw ow un true (.pointer none) (.slice none 0 0)) :: _) at h4
  clear kX kK n1 n2 hw4
  refine (cn_header h4.tail).mono ?_
  rintro e w8 ⟨rfl, X, D, dc, E, ec, h8⟩
  have H8 := Lib.hid h8
  clear h4 h8 H3
  go_wp2
  refine bodyPost_end (results_none rfl _ _ _) rfl ?_
  exact ⟨rfl, X, D, dc, E, ec, H8.out⟩
end Go.Proofs.YtbgnggkgmeagkaaGreatDoor
namespace Go.Proofs.YtbgnggkgmeagkaaGreatDoor
open Go.RowKit
def codeL : List UInt8 := [99, 111, 100, 105, 110, 103]
def chkL : List UInt8 := [58, 32, 99, 104, 117, 110, 107, 101, 100, 13, 10, 13, 10]
theorem codeL_letters : ∀ y ∈ codeL, smallL.contains y = true ∧ (58 : UInt8) ≠ y := by decide
set_option maxRecDepth 100000 in
set_option maxHeartbeats 4000000 in
theorem head_coded {w : World} {R c at_ : Nat} {A : Option Addr} {l rest : List UInt8} (h : RdR w R A l c at_ (codeL ++ (chkL ++ rest))) :
    Calls Tryz.prog 35 #[.pointer (some ⟨R, 0, none⟩), .int .i64 0, .bool true] w fun e w' => e = .returned (.tuple #[.slice none 0 0, .int .i64 (-1), .bool true]) ∧ (∃ a2, RdR w' R A l c a2 rest) ∧ BelowBut w.heap.size R w w' := by
  have hlt := h.rd.blk.lt
  have hsm := h.rd.sm
  have c0 := h.rd.blk.cell 0
  have c1 := h.rd.blk.cell 1
  have c2 := h.rd.blk.cell 2
  obtain ⟨b, off, hA, hbR, hal, hcl⟩ := h.head (x := 99) (r := [111, 100, 105, 110, 103] ++ (chkL ++ rest)) rfl
  have hai : ((at_ : Nat) : Int) < ((l.length : Nat) : Int) := by omega
  have hbw := Nat.lt_trans hbR hlt
  subst hA
  have HU := Lib.hid (until_letter (x := 58) (s := codeL) (rest := chkL.drop 1 ++ rest) (h.next ((Below.refl _ _).drew)) codeL_letters (by decide))
  clear h
  go_enter Tryz.func35, Tryz.ntmps35
  go_wp2_with fail
  refine wp_loop_rounds 1 ?_
  rw [rounds_succ]
  go_wp2_with fail
  go_region
  go_wp2_with fail
  refine (show Calls _ _ _ _ _ from HU.out).mono ?_
  rintro e w1 ⟨rfl, ⟨a3, hr3⟩, hb3⟩
  have d0 := hr3.rd.blk.cell 0
  have d1 := hr3.rd.blk.cell 1
  have d2 := hr3.rd.blk.cell 2
  have hl3 := hr3.rd.blk.lt
  have HN := Lib.hid (rneed_ok hr3.rd)
  have HM := Lib.hid (rmatch_rest (s := chkL) (rest := rest) hr3)
  have HB := Lib.hid ((BelowBut.refl w.heap.size R w).drew.next2 hb3)
  have hcc : (codeL == [108, 101, 110, 103, 116, 104]) = false := by decide
  have hcc2 : (codeL == [99, 111, 100, 105, 110, 103]) = true := by decide
  clear hr3 hb3 HU
  go_wp2_with fail
  refine (show Calls _ _ _ _ _ from HN.out).mono ?_
  rintro e w2 ⟨rfl, rfl⟩
  go_wp2_with fail
  refine (show Calls _ _ _ _ _ from HM.out).mono ?_
  rintro e w4 ⟨rfl, hr4, hb4⟩
  have HR4 := Lib.hid hr4
  have HB4 := Lib.hid (HB.out.next2 hb4)
  clear hr4 hb4 HM HN HB
  go_wp2
  go_ret3
  exact ⟨rfl, HR4.out, HB4.out⟩
end Go.Proofs.YtbgnggkgmeagkaaGreatDoor
