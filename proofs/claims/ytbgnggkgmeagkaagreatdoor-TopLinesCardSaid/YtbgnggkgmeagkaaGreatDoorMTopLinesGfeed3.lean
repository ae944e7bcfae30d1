/-
  gate.Feed at the other pieces of the closed run. Conditions: the bytes are those of the run; the table of powers.
-/
import Derived.Test.YtbgnggkgmeagkaaGreatDoorMTopLines29
import Derived.Test.YtbgnggkgmeagkaaGreatDoorMTopLines33
set_option linter.unusedSimpArgs false
set_option linter.unusedVariables false
namespace Go.Proofs.YtbgnggkgmeagkaaGreatDoor
open Go.RowKit Go.Shelf
theorem ev_row {w : World} {L : List Atom} {i ec : Nat} {E : Option Addr} {vs : Array Value} (h : Sep w L) (hi : L[i]? = some (rowA 215 6 (.slice E 1 ec) 1 vs.toList)) (hvs : vs.size = 6) : ∃ ea, E = some ⟨ea, 0, none⟩ ∧ ∀ j, j < 6 → w.cell? ⟨ea, j, none⟩ = vs[j]? := by
  have hr := h.row hi
  rcases hr.2 with ⟨_, h2⟩ | ⟨g, cap, cur, hv, _⟩
  · cases h2
  · cases hv
    refine ⟨g, rfl, fun j hj => ?_⟩
    have h1 := hr.cells (g := g) rfl j vs[j] (by simp)
    rw [Addr.add_lit, Nat.zero_add] at h1
    rw [h1]
    simp
/-- The answer to what was set. -/
theorem gf_ans {w : World} {F : List Atom} {g kb C S M n c k bc z Li St CM JM : Nat} {A B : Option Addr} {Rt log ord out evs : Value} {xs ys : List UInt8} {iw ow un last : Int} (zs : List UInt8) (u : Nat)
    (hn : n = xs.length) (hk : k = ys.length) (hs : n + k ≤ 1000) (hB : ∀ w', Sep w' F → Reads w' w'.heap.size 1 B k (bs ys)) (hS : frmR (xs ++ ys) = (⟨4, 1, 0, []⟩, u, 0)) (hu : u ≤ n + k) (hu0 : 0 < n + k) (hz : (xs ++ ys).drop u = zs) (hzl : z = zs.length) (hS2 : frmR zs = (frm0, 0, 8))
    (h : Sep w (blkA g 120 (gatV kb Rt Li St CM JM last log) :: blkA kb 200 (conV C S M ord (.slice A n c) out iw ow un true (.pointer none) evs) :: rowA 5 1 (.slice A n c) n (bs xs) :: F)) :
    Calls Tryz.prog 59 #[.pointer (some ⟨g, 0, none⟩), .slice B k bc] w fun e w' => e = .returned .nilIface ∧
      ∃ A' c', Sep w' (blkA g 120 (gatV kb Rt Li St CM JM last log) :: blkA kb 200 (conV C S M ord (.slice A' z c') out iw ow un true (.pointer none) (.slice none 0 0)) :: rowA 5 1 (.slice A' z c') z (bs zs) :: F) := by
  refine gf_none ((h.at_ (i := 0) rfl).1 0) ((h.at_ (i := 1) rfl).1 11) ((nf_one ⟨4, 1, 0, []⟩ zs hn hk hs (fun w' hw => hB w' hw.tail) hS hu hu0 hz hzl hS2
    (fun ord' out' iw' ow' un' began' part' evs' G => ord' = ord ∧ out' = out ∧ iw' = iw ∧ ow' = ow ∧ un' = un ∧ began' = true ∧ part' = .pointer none ∧ evs' = .slice none 0 0 ∧ G = blkA g 120 (gatV kb Rt Li St CM JM last log) :: F) ?_ ((h.front 2 rfl).front 2 rfl)).mono ?_)
  · intro w1 A1 BA c1 b1 h1
    refine (cn_hear_ans (h1.drop_ 2)).mono ?_
    rintro e w' ⟨rfl, h'⟩
    exact ⟨rfl, _, _, _, _, _, _, _, _, _, ⟨rfl, rfl, rfl, rfl, rfl, rfl, rfl, rfl, rfl⟩, h'⟩
  · rintro e w' ⟨_, _, _, _, _, _, _, _, _, A', c', rfl, ⟨rfl, rfl, rfl, rfl, rfl, rfl, rfl, rfl, rfl⟩, h'⟩
    exact ⟨none, 0, rfl, A', c', h'.front 2 rfl⟩
/-- The window is made wider. -/
theorem gf_wide {w : World} {F : List Atom} {g kb C S M n c k bc z Li St CM JM oc : Nat} {A B OA : Option Addr} {Rt log out evs : Value} {xs ys : List UInt8} {iw un last : Int} (zs : List UInt8) (u : Nat) (ho : OrdAt F OA oc)
    (hn : n = xs.length) (hk : k = ys.length) (hs : n + k ≤ 1000) (hB : ∀ w', Sep w' F → Reads w' w'.heap.size 1 B k (bs ys)) (hS : frmR (xs ++ ys) = (⟨7, 0, 0, [0, 0, 0, 4]⟩, u, 0)) (hu : u ≤ n + k) (hu0 : 0 < n + k) (hz : (xs ++ ys).drop u = zs) (hzl : z = zs.length) (hS2 : frmR zs = (frm0, 0, 8))
    (h : Sep w (blkA g 120 (gatV kb Rt Li St CM JM last log) :: blkA kb 200 (conV C S M (.slice OA 0 oc) (.slice A n c) out iw 1996 un true (.pointer none) evs) :: rowA 5 1 (.slice A n c) n (bs xs) :: F)) :
    Calls Tryz.prog 59 #[.pointer (some ⟨g, 0, none⟩), .slice B k bc] w fun e w' => e = .returned .nilIface ∧
      ∃ A' c', Sep w' (blkA g 120 (gatV kb Rt Li St CM JM last log) :: blkA kb 200 (conV C S M (.slice OA 0 oc) (.slice A' z c') out iw 2000 un true (.pointer none) (.slice none 0 0)) :: rowA 5 1 (.slice A' z c') z (bs zs) :: F) := by
  refine gf_none ((h.at_ (i := 0) rfl).1 0) ((h.at_ (i := 1) rfl).1 11) ((nf_one ⟨7, 0, 0, [0, 0, 0, 4]⟩ zs hn hk hs (fun w' hw => hB w' hw.tail) hS hu hu0 hz hzl hS2
    (fun ord' out' iw' ow' un' began' part' evs' G => ord' = .slice OA 0 oc ∧ out' = out ∧ iw' = iw ∧ ow' = 2000 ∧ un' = un ∧ began' = true ∧ part' = .pointer none ∧ evs' = .slice none 0 0 ∧ G = blkA g 120 (gatV kb Rt Li St CM JM last log) :: F) ?_ ((h.front 2 rfl).front 2 rfl)).mono ?_)
  · intro w1 A1 BA c1 b1 h1
    refine (cn_hear_wide ((ho.cons).cons) ((h1.front 2 rfl).front 1 rfl)).mono ?_
    rintro e w' ⟨rfl, h'⟩
    exact ⟨rfl, _, _, _, _, _, _, _, _, _, ⟨rfl, rfl, rfl, rfl, rfl, rfl, rfl, rfl, rfl⟩, h'⟩
  · rintro e w' ⟨_, _, _, _, _, _, _, _, _, A', c', rfl, ⟨rfl, rfl, rfl, rfl, rfl, rfl, rfl, rfl, rfl⟩, h'⟩
    exact ⟨none, 0, rfl, A', c', h'.front 2 rfl⟩
set_option maxRecDepth 100000 in
set_option maxHeartbeats 4000000 in
/-- A head: it is asked. -/
theorem gf_head {w : World} {F : List Atom} {g kb C S M MS gg hh n c k bc z Li St CM JM : Nat} {A B : Option Addr} {Rt log ord out evs : Value} {xs ys : List UInt8} {iw ow un last : Int} (zs : List UInt8) (u : Nat)
    (hn : n = xs.length) (hk : k = ys.length) (hs : n + k ≤ 1000) (hB : ∀ w', Sep w' F → Reads w' w'.heap.size 1 B k (bs ys)) (hS : frmR (xs ++ ys) = (⟨1, 4, 1, ablkL⟩, u, 0)) (hu : u ≤ n + k) (hu0 : 0 < n + k) (hz : (xs ++ ys).drop u = zs) (hzl : z = zs.length) (hS2 : frmR zs = (frm0, 0, 8))
    (h : Sep w (blkA g 120 (gatV kb Rt Li St CM JM last log) :: blkA kb 200 (conV C S M ord (.slice A n c) out iw ow un true (.pointer none) evs) :: rowA 5 1 (.slice A n c) n (bs xs) :: mapA CM #[] 0 :: mapA M #[] 0 :: blkA S 254 (stmV MS 0) :: mapA MS #[] 0 :: blkA C 93 (coderV gg hh) :: tabA hh none 0 [] 4096 :: F)) :
    Calls Tryz.prog 59 #[.pointer (some ⟨g, 0, none⟩), .slice B k bc] w fun e w' => e = .returned .nilIface ∧
      ∃ A' c' Y X D dc evs', Sep w' (blkA g 120 (gatV kb Rt Li St CM JM last log) :: blkA kb 200 (conV C S M ord (.slice A' z c') out iw ow un true (.pointer none) evs') :: rowA 5 1 (.slice A' z c') z (bs zs) :: mapA CM (ent1 (.pointer (some ⟨Y, 0, none⟩))) 1 :: blkA Y 146 (gclE (.slice D 3 dc) (.slice none 0 0)) :: blkA X 313 (chnV 2000 2000 0 (.slice none 0 0) false false) :: mapA M (ent1 (.pointer (some ⟨X, 0, none⟩))) 1 :: blkA S 254 (stmV MS 1) :: mapA MS (ent1 (.int .i64 1)) 1 :: rowA 41 2 (.slice D 3 dc) 3 (fvs askFL) :: blkA C 93 (coderV gg hh) :: F) := by
  have hg := (h.at_ (i := 0) rfl).1 0
  have ho := (h.at_ (i := 1) rfl).1 11
  have h0 := (h.front 2 rfl).front 2 rfl
  refine gf_one (fn := 3) (bn := 0) 1 1 0 false (P := fun ea fa fc ba bb w' => ba = none ∧ bb = 0 ∧ ∃ A' c' X ec, Sep w' (blkA kb 200 (conV C S M ord (.slice A' z c') out iw ow un true (.pointer none) (.slice (some ⟨ea, 0, none⟩) 1 ec)) :: rowA 5 1 (.slice A' z c') z (bs zs) :: rowA 215 6 (.slice (some ⟨ea, 0, none⟩) 1 ec) 1 (evV 1 1 0 (.slice fa 3 fc) (.slice none 0 0) false).toList :: blkA X 313 (chnV 2000 2000 0 (.slice none 0 0) false false) :: mapA M (ent1 (.pointer (some ⟨X, 0, none⟩))) 1 :: blkA S 254 (stmV MS 1) :: mapA MS (ent1 (.int .i64 1)) 1 :: rowA 41 2 (.slice fa 3 fc) 3 (fvs askFL) :: blkA C 93 (coderV gg hh) :: blkA g 120 (gatV kb Rt Li St CM JM last log) :: mapA CM #[] 0 :: F)) hg ho ((nf_one ⟨1, 4, 1, ablkL⟩ zs hn hk hs (fun w' hw => hB w' hw.tail.tail.tail.tail.tail.tail.tail) hS hu hu0 hz hzl hS2
    (fun ord' out' iw' ow' un' began' part' evs' G => ∃ X D dc E ec, ord' = ord ∧ out' = out ∧ iw' = iw ∧ ow' = ow ∧ un' = un ∧ began' = true ∧ part' = .pointer none ∧ evs' = .slice E 1 ec ∧ G = rowA 215 6 (.slice E 1 ec) 1 (evV 1 1 0 (.slice D 3 dc) (.slice none 0 0) false).toList :: blkA X 313 (chnV 2000 2000 0 (.slice none 0 0) false false) :: mapA M (ent1 (.pointer (some ⟨X, 0, none⟩))) 1 :: blkA S 254 (stmV MS 1) :: mapA MS (ent1 (.int .i64 1)) 1 :: rowA 41 2 (.slice D 3 dc) 3 (fvs askFL) :: blkA C 93 (coderV gg hh) :: blkA g 120 (gatV kb Rt Li St CM JM last log) :: mapA CM #[] 0 :: F) ?_ h0).mono ?_) ?_
  · intro w1 A1 BA c1 b1 h1
    have h2 := (((((((h1.front 9 rfl).front 9 rfl).front 9 rfl).front 9 rfl).front 9 rfl).front 5 rfl).front 7 rfl)
    refine (cn_hear_head h2).mono ?_
    rintro e w' ⟨rfl, X, D, dc, E, ec, h'⟩
    exact ⟨rfl, _, _, _, _, _, _, _, _, _, ⟨X, D, dc, E, ec, rfl, rfl, rfl, rfl, rfl, rfl, rfl, rfl, rfl⟩, ((h'.front 8 rfl).front 1 rfl)⟩
  · rintro e w' ⟨_, _, _, _, _, _, _, _, _, A', c', rfl, ⟨X, D, dc, E, ec, rfl, rfl, rfl, rfl, rfl, rfl, rfl, rfl, rfl⟩, h'⟩
    obtain ⟨ea, rfl, hcl⟩ := ev_row h' (i := 2) rfl rfl
    exact ⟨ea, ec, D, dc, none, 0, rfl, hcl, rfl, rfl, A', c', X, ec, h'⟩
  · rintro ea fa fc ba bb w1 ⟨rfl, rfl, A', c', X, ec, h1⟩
    have h2 := (((h1.newBlk 215 (evV 1 1 0 (.slice fa 3 fc) (.slice none 0 0) false)).front 11 rfl).front 11 rfl)
    refine (ge_asked h2).mono ?_
    rintro e w' ⟨rfl, Y, h'⟩
    exact ⟨rfl, A', c', Y, X, fa, fc, _, ((((((h'.drop_ 3).drop_ 5).front 2 rfl).front 4 rfl).front 4 rfl).front 4 rfl)⟩
set_option maxRecDepth 100000 in
set_option maxHeartbeats 4000000 in
/-- The body: the request is whole. -/
theorem gf_data {w w0 : World} {F : List Atom} {io g kb C S M MS X Y n c k bc z Li LM LM' St CM JM fc rc : Nat} {A B FA RA : Option Addr} {log ord out evs : Value} {xs ys : List UInt8} {ow : Int} (zs : List UInt8) (u : Nat) (hP : Pow w0) (hio : F[io]? = some (oldA w0))
    (hn : n = xs.length) (hk : k = ys.length) (hs : n + k ≤ 1000) (hB : ∀ w', Sep w' F → Reads w' w'.heap.size 1 B k (bs ys)) (hS : frmR (xs ++ ys) = (⟨0, 1, 1, [120]⟩, u, 0)) (hu : u ≤ n + k) (hu0 : 0 < n + k) (hz : (xs ++ ys).drop u = zs) (hzl : z = zs.length) (hS2 : frmR zs = (frm0, 0, 8))
    (h : Sep w (blkA g 120 (gatV kb (.slice RA 1 rc) Li St CM JM 0 log) :: blkA kb 200 (conV C S M ord (.slice A n c) out 2000 ow 0 true (.pointer none) evs) :: rowA 5 1 (.slice A n c) n (bs xs) :: mapA CM (ent1 (.pointer (some ⟨Y, 0, none⟩))) 1 :: blkA Y 146 (gclE (.slice FA 3 fc) (.slice none 0 0)) :: blkA X 313 (chnV 2000 2000 0 (.slice none 0 0) false false) :: mapA M (ent1 (.pointer (some ⟨X, 0, none⟩))) 1 :: blkA S 254 (stmV MS 1) :: mapA MS (ent1 (.int .i64 1)) 1 :: rowA 41 2 (.slice FA 3 fc) 3 (fvs askFL) :: blkA Li 193 #[.int .i64 10, .int .i64 10, .map (some LM), .map (some LM')] :: mapA LM' #[] 0 :: mapA LM #[] 0 :: blkA St 203 #[.slice none 0 0] :: rowA 47 3 (.slice RA 1 rc) 1 rtV :: mapA JM #[] 0 :: F)) :
    Calls Tryz.prog 59 #[.pointer (some ⟨g, 0, none⟩), .slice B k bc] w fun e w' => e = .returned .nilIface ∧
      ∃ A' c' fa fc' ba bc' ad jc D dc evs', Sep w' (blkA g 120 (gatV kb (.slice RA 1 rc) Li St CM JM 1 log) :: blkA kb 200 (conV C S M ord (.slice A' z c') out 1999 ow 0 true (.pointer none) evs') :: rowA 5 1 (.slice A' z c') z (bs zs) :: mapA CM (ent1 (.pointer (some ⟨Y, 0, none⟩))) 1 :: blkA Y 146 (gclV (.slice FA 3 fc) (.slice D 1 dc) (.string ⟨#[80, 79, 83, 84]⟩) (.string ⟨#[47, 112]⟩) (.string ⟨#[104]⟩) (.slice fa 0 fc') (.slice ba 1 bc') 0) :: mapA JM (ent1 (.agg #[.int .i64 1, .string ⟨#[97, 108, 108]⟩, .slice (some ad) 39 jc])) 1 :: bytA ad askTL :: mapA M (ent1 (.pointer (some ⟨X, 0, none⟩))) 1 :: blkA X 313 (chnV 1999 2000 0 (.slice none 0 0) false false) :: blkA S 254 (stmV MS 1) :: mapA MS (ent1 (.int .i64 2)) 1 :: F) := by
  have hg := (h.at_ (i := 0) rfl).1 0
  have ho := (h.at_ (i := 1) rfl).1 11
  have h0 := (h.front 2 rfl).front 2 rfl
  refine gf_one (fn := 0) (bn := 1) 2 1 0 true (P := fun ea fa' fc'' ba' bb w' => fa' = none ∧ fc'' = 0 ∧ ∃ A' c' ec, Sep w' (blkA kb 200 (conV C S M ord (.slice A' z c') out 1999 ow 1 true (.pointer none) (.slice (some ⟨ea, 0, none⟩) 1 ec)) :: rowA 5 1 (.slice A' z c') z (bs zs) :: rowA 215 6 (.slice (some ⟨ea, 0, none⟩) 1 ec) 1 (evV 2 1 0 (.slice none 0 0) (.slice ba' 1 bb) true).toList :: rowA 5 1 (.slice ba' 1 bb) 1 (bs [120]) :: mapA M (ent1 (.pointer (some ⟨X, 0, none⟩))) 1 :: blkA X 313 (chnV 1999 2000 1 (.slice none 0 0) false false) :: blkA S 254 (stmV MS 1) :: mapA MS (ent1 (.int .i64 2)) 1 :: blkA g 120 (gatV kb (.slice RA 1 rc) Li St CM JM 0 log) :: mapA CM (ent1 (.pointer (some ⟨Y, 0, none⟩))) 1 :: blkA Y 146 (gclE (.slice FA 3 fc) (.slice none 0 0)) :: rowA 41 2 (.slice FA 3 fc) 3 (fvs askFL) :: blkA Li 193 #[.int .i64 10, .int .i64 10, .map (some LM), .map (some LM')] :: mapA LM' #[] 0 :: mapA LM #[] 0 :: blkA St 203 #[.slice none 0 0] :: rowA 47 3 (.slice RA 1 rc) 1 rtV :: mapA JM #[] 0 :: F)) hg ho ((nf_one ⟨0, 1, 1, [120]⟩ zs hn hk hs (fun w' hw => hB w' hw.tail.tail.tail.tail.tail.tail.tail.tail.tail.tail.tail.tail.tail.tail) hS hu hu0 hz hzl hS2
    (fun ord' out' iw' ow' un' began' part' evs' G => ∃ E ec BA bb, ord' = ord ∧ out' = out ∧ iw' = 1999 ∧ ow' = ow ∧ un' = 1 ∧ began' = true ∧ part' = .pointer none ∧ evs' = .slice E 1 ec ∧ G = rowA 215 6 (.slice E 1 ec) 1 (evV 2 1 0 (.slice none 0 0) (.slice BA 1 bb) true).toList :: rowA 5 1 (.slice BA 1 bb) 1 (bs [120]) :: mapA M (ent1 (.pointer (some ⟨X, 0, none⟩))) 1 :: blkA X 313 (chnV 1999 2000 1 (.slice none 0 0) false false) :: blkA S 254 (stmV MS 1) :: mapA MS (ent1 (.int .i64 2)) 1 :: blkA g 120 (gatV kb (.slice RA 1 rc) Li St CM JM 0 log) :: mapA CM (ent1 (.pointer (some ⟨Y, 0, none⟩))) 1 :: blkA Y 146 (gclE (.slice FA 3 fc) (.slice none 0 0)) :: rowA 41 2 (.slice FA 3 fc) 3 (fvs askFL) :: blkA Li 193 #[.int .i64 10, .int .i64 10, .map (some LM), .map (some LM')] :: mapA LM' #[] 0 :: mapA LM #[] 0 :: blkA St 203 #[.slice none 0 0] :: rowA 47 3 (.slice RA 1 rc) 1 rtV :: mapA JM #[] 0 :: F) ?_ h0).mono ?_) ?_
  · intro w1 A1 BA c1 b1 h1
    have h2 := ((((((h1.front 9 rfl).front 9 rfl).front 8 rfl).front 9 rfl).front 4 rfl).front 6 rfl)
    refine (cn_hear_data h2).mono ?_
    rintro e w' ⟨rfl, E, ec, h'⟩
    exact ⟨rfl, _, _, _, _, _, _, _, _, _, ⟨E, ec, BA, b1, rfl, rfl, rfl, rfl, rfl, rfl, rfl, rfl, rfl⟩, ((h'.front 7 rfl).front 1 rfl)⟩
  · rintro e w' ⟨_, _, _, _, _, _, _, _, _, A', c', rfl, ⟨E, ec, BA, bb, rfl, rfl, rfl, rfl, rfl, rfl, rfl, rfl, rfl⟩, h'⟩
    obtain ⟨ea, rfl, hcl⟩ := ev_row h' (i := 2) rfl rfl
    exact ⟨ea, ec, none, 0, BA, bb, rfl, hcl, rfl, rfl, A', c', ec, h'⟩
  · rintro ea fa' fc'' ba' bb w1 ⟨rfl, rfl, A', c', ec, h1⟩
    have h2 := (((((((((((((((((h1.newBlk 215 (evV 2 1 0 (.slice none 0 0) (.slice ba' 1 bb) true)).front 4 rfl).front 8 rfl).front 8 rfl).front 8 rfl).front 8 rfl).front 6 rfl).front 18 rfl).front 18 rfl).front 18 rfl).front 18 rfl).front 18 rfl).front 18 rfl).front 18 rfl).front 18 rfl).front 18 rfl).front 18 rfl)
    refine (ge_came hP (io := io + 3) hio h2).mono ?_
    rintro e w' ⟨rfl, fa, fc', ba, bc', ad, jc, D, dc, h'⟩
    exact ⟨rfl, A', c', fa, fc', ba, bc', ad, jc, D, dc, _, (((((h'.drop_ 10).drop_ 11).front 10 rfl).front 6 rfl).front 2 rfl)⟩
end Go.Proofs.YtbgnggkgmeagkaaGreatDoor
