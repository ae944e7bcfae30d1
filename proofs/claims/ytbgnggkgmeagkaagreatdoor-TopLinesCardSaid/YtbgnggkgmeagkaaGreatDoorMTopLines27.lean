/-
  A store that is empty has nothing; what is no GET is not kept. No condition.
  What goes out is taken: of a client, a connection, a gate. No condition.
  A client hears a piece: too short for a frame; one frame is whole. Condition: the pieces are short; what a frame does is given.
  A client hears settings, and the answer to its own. No condition.
  A connection has nothing to let go. No condition.
  A connection hears settings, the answer to its own, and more of a window. No condition but that its numbers are small.
  More of a window. No condition but that the numbers are small.
-/
import Derived.Test.YtbgnggkgmeagkaaGreatDoorMTopLines26
import Derived.Test.YtbgnggkgmeagkaaGreatDoorMTopLines20
import Derived.Test.YtbgnggkgmeagkaaGreatDoorMTopLines25
import Derived.Test.YtbgnggkgmeagkaaGreatDoorMTopLines06
set_option linter.unusedSimpArgs false
set_option linter.unusedVariables false
namespace Go.Proofs.YtbgnggkgmeagkaaGreatDoor
open Go.RowKit Go.Shelf
set_option maxRecDepth 100000 in
set_option maxHeartbeats 2000000 in
theorem sto_time (w : World) : Calls Tryz.prog 120 #[.int .i64 0] w fun e w' => e = .returned (.bool true) ∧ w = w' := by
  go_enter Tryz.func120, Tryz.ntmps120
  go_wp2
  go_ret
  exact ⟨rfl, rfl⟩
theorem run_loadVar_plain {P : Program} {w : World} {ty : TypeId} {a : Addr} {v : Value} {d : TypeDesc} (hu : P.underlying ty = some d) (hd : (match d with | .struct _ | .array _ _ => true | _ => false) = false) (hg : w.cell? a = some v) : (loadVar ty a).run P w = .ok v w := by
  cases d <;> first | (cases hd; done) | simp [loadVar, isAgg, run_underlying hu, hg, go_sem]
theorem results_c3 {P : Program} {fn : Func} {p1 p2 p3 : Tmp} {t1 t2 t3 : TypeId} (h : fn.results = #[.cell p1 t1, .cell p2 t2, .cell p3 t3]) (tmps : Array Value) (w : World) (g1 g2 g3 : Nat) (t : TypeId) (cs : Array Value) (v2 v3 : Value) (d d2 d3 : TypeDesc)
    (hp1 : tmps.getD p1 undef = .pointer (some ⟨g1, 0, none⟩)) (hp2 : tmps.getD p2 undef = .pointer (some ⟨g2, 0, none⟩)) (hp3 : tmps.getD p3 undef = .pointer (some ⟨g3, 0, none⟩)) (hg : Blk w g1 t cs)
    (hu : P.underlying t1 = some d) (hd : (match d with | .struct _ | .array _ _ => true | _ => false) = true) (hi : (P.info? t1).map (·.size) = some cs.size)
    (hu2 : P.underlying t2 = some d2) (hd2 : (match d2 with | .struct _ | .array _ _ => true | _ => false) = false) (h2 : w.cell? ⟨g2, 0, none⟩ = some v2)
    (hu3 : P.underlying t3 = some d3) (hd3 : (match d3 with | .struct _ | .array _ _ => true | _ => false) = false) (h3 : w.cell? ⟨g3, 0, none⟩ = some v3) :
    (results fn tmps).run P w = .ok (.tuple #[.agg cs, v2, v3]) w := by
  have e1 : tmps[p1]?.getD undef = .pointer (some ⟨g1, 0, none⟩) := by simpa using hp1
  have e2 : tmps[p2]?.getD undef = .pointer (some ⟨g2, 0, none⟩) := by simpa using hp2
  have e3 : tmps[p3]?.getD undef = .pointer (some ⟨g3, 0, none⟩) := by simpa using hp3
  simp [results, h, e1, e2, e3, asAddr, run_loadVar_row w g1 t t1 cs (0, 0) d hg hu hd hi, run_loadVar_plain hu2 hd2 h2, run_loadVar_plain hu3 hd3 h3]
theorem rep_size {a b c : Value} : (Tryz.prog.info? 69).map (·.size) = some (#[a, b, c] : Array Value).size := by kernel_rfl
theorem back_new (F : Fence) (n : Nat) (h81 : F.fn 289) (hro : F.round = none) (A : Option Addr) (len cap : Nat) (w : World) :
    CallsIn F n Tryz.prog 289 #[.slice A len cap] w fun e w' => e = .returned (.func (.func 318) #[] #[.pointer (some ⟨w.heap.size, 0, none⟩)]) ∧
      w' = w.alloc (.cells #[.slice A len cap] 201) := by
  refine callsIn_of_wp Tryz.func289 rfl h81 ?_ hro
  simp only [Tryz.ntmps289, List.size_toArray, List.length_cons, List.length_nil, Nat.reduceAdd, Nat.reduceSub, Array.replicate_succ, Array.replicate_zero, List.push_toArray, List.append_toArray, List.nil_append, List.cons_append]
  gi_wp2
  go_ret
  exact ⟨rfl, rfl⟩
theorem back_nil {W : World} {B l n : Nat} (hs : W.cell? ⟨B, 0, none⟩ = some (.slice none 0 0)) :
    CallsIn Fence.wide n Tryz.prog 318 (#[.func (.yield l) #[] #[]] ++ #[.pointer (some ⟨B, 0, none⟩)]) W fun e W' => (∃ v, e = .returned v) ∧ W = W' := by
  have hlt := World.block_lt_of_cell? W _ hs
  refine callsIn_of_wp Tryz.func318 rfl trivial ?_ rfl
  simp only [Tryz.ntmps318, List.size_toArray, List.length_cons, List.length_nil, Nat.reduceAdd, Nat.reduceSub, Array.replicate_succ, Array.replicate_zero, List.push_toArray, List.append_toArray, List.nil_append, List.cons_append]
  gi_wp2
  gi_loopw [3] (fun i wr => i = .int .i64 (-1) ∧ wr = W) (fun _ _ => 0)
  case atStart => exact ⟨rfl, rfl⟩
  case round =>
    obtain ⟨rfl, rfl⟩ := hrel
    gi_wp2
    go_end0
    exact ⟨⟨_, rfl⟩, rfl⟩
def reqA (m p h : List UInt8) (fa : Option Addr) (fn fc : Nat) (ba : Option Addr) (bn bc : Nat) : Value := .agg (reqV m p h fa fn fc ba bn bc)
def postM : List UInt8 := [80, 79, 83, 84]
def pathP : List UInt8 := [47, 112]
def hostH : List UInt8 := [104]
set_option maxRecDepth 100000 in
set_option maxHeartbeats 4000000 in
theorem sto_get {w : World} {F : List Atom} {St fn fc bn bc : Nat} {fa ba : Option Addr}
    (h : Sep w (blkA St 203 #[.slice none 0 0] :: F)) :
    Calls Tryz.prog 233 #[.pointer (some ⟨St, 0, none⟩), .agg (reqV postM pathP hostH fa fn fc ba bn bc), .int .i64 0] w fun e w' => e = .returned (.tuple #[.agg #[.int .i64 0, .slice none 0 0, .slice none 0 0], .int .i64 0, .iface 95 (.int .i64 5)]) ∧ Sep w' F := by
  have h1 := (((((h.newBlk 25 (reqV postM pathP hostH fa fn fc ba bn bc)).newBlk 3 #[.int .i64 0]).newBlk 69 #[.int .i64 0, .slice none 0 0, .slice none 0 0]).newBlk 3 #[.int .i64 0]).newBlk 28 #[.nilIface])
  simp only [World.size_alloc] at h1
  unfold reqV at h1 ⊢
  have kS := h1.at_ (i := 5) rfl
  have kN := h1.at_ (i := 3) rfl
  have H1 := Lib.hid h1
  clear h h1
  refine (callsIn_wide (n := 7)).1 ?_
  refine callsIn_of_wp_marks Tryz.func233 rfl trivial ?_ rfl
  simp only [Tryz.ntmps233, List.size_toArray, List.length_cons, List.length_nil, Nat.reduceAdd, Nat.reduceSub, Array.replicate_succ, Array.replicate_zero, List.push_toArray, List.append_toArray, List.nil_append, List.cons_append]
  gi_wp2_with (first
    | (refine ⟨trivial, ?_⟩; gi_at_call 120; refine (callsIn_wide.2 (sto_time _)).mono ?_; rintro e w' ⟨rfl, rfl⟩)
    | (refine ⟨trivial, ?_⟩; gi_at_call 289; refine (back_new Fence.wide _ trivial rfl _ _ _ _).mono ?_; rintro e w' ⟨rfl, rfl⟩)
    | (refine ⟨trivial, ?_⟩))
  obtain ⟨w1, hw1⟩ : ∃ w1, ((((w.alloc (.cells #[.string ⟨postM.toArray⟩, .string ⟨pathP.toArray⟩, .string ⟨hostH.toArray⟩, .slice fa fn fc, .slice ba bn bc] 25)).alloc (.cells #[.int .i64 0] 3)).alloc (.cells #[.int .i64 0, .slice none 0 0, .slice none 0 0] 69)).alloc (.cells #[.int .i64 0] 3)).alloc (.cells #[.nilIface] 28) = w1 := ⟨_, rfl⟩
  have hsz : w.heap.size + 1 + 1 + 1 + 1 + 1 = w1.heap.size := by rw [← hw1]; simp
  rw [hw1, hsz]
  rw [hw1] at H1
  clear hw1 kS kN
  refine wpIn_rangeFunc_zero rfl (by decide) (gf := 318) (lb := #[.pointer (some ⟨w1.heap.size, 0, none⟩)]) rfl trivial (enters_of Tryz.func318 (by kernel_rfl) rfl) (fun l W hW => back_nil ((hW.cell (p := ⟨w1.heap.size, 0, none⟩) (by simp)).trans ((Blk.new w1 _ _).cell 0))) ?_
  intro D W hD hW hK
  have hs2 : w1.heap.size + 1 ≤ D := by simpa using hD
  have hbW : Below w1.heap.size w1 W := ((Below.refl _ w1).alloc (Nat.le_refl _) _).trans (hW.mono (by simp))
  have h3 := H1.out.newDef hbW (by omega) hK
  have kE := h3.at_ (i := 1) rfl
  have kI := h3.at_ (i := 2) rfl
  have kR := h3.at_ (i := 3) rfl
  have H3 := Lib.hid h3
  clear hD hW hK hs2 hbW h3 H1 hsz
  gi_wp2
  have h4 := ((((H3.out.set_ (i := 3) rfl 0 (.int .i64 0)).set_ (i := 3) rfl 1 (.slice none 0 0)).set_ (i := 3) rfl 2 (.slice none 0 0)).set_ (i := 2) rfl 0 (.int .i64 0)).set_ (i := 1) rfl 0 (.iface 95 (.int .i64 5))
  refine ⟨by simp, .inl ⟨_, _, rfl, run_takeDeferred (h4.def_ (i := 0) rfl), ?_⟩⟩
  have h5 := h4.shut (.deferred none)
  exact ⟨_, results_c3 rfl _ _ _ _ _ _ _ _ _ _ _ _ rfl rfl rfl (h5.blk (i := 2) rfl) Tryz.underlying69 rfl rep_size Tryz.underlying3 rfl ((h5.at_ (i := 1) rfl).1 0) Tryz.underlying28 rfl ((h5.at_ (i := 0) rfl).1 0), rfl, h5.tail.tail.tail.tail.tail.tail⟩
set_option maxRecDepth 100000 in
set_option maxHeartbeats 2000000 in
theorem sto_put {w : World} {F : List Atom} {St fn fc bn bc an ac dn dc : Nat} {fa ba aa da : Option Addr} {code : Int} (h : Sep w F) :
    Calls Tryz.prog 67 #[.pointer (some ⟨St, 0, none⟩), .agg (reqV postM pathP hostH fa fn fc ba bn bc), .agg #[.int .i64 code, .slice aa an ac, .slice da dn dc], .int .i64 0] w fun e w' => e = .returned (.tuple #[.bool false, .nilIface]) ∧ Sep w' F := by
  have H := Lib.hid ((h.newBlk 25 (reqV postM pathP hostH fa fn fc ba bn bc)).newBlk 69 #[.int .i64 code, .slice aa an ac, .slice da dn dc]).tail.tail
  have b1 : (ByteArray.mk postM.toArray == ByteArray.mk #[71, 69, 84]) = false := by decide
  have b2 : (ByteArray.mk postM.toArray != ByteArray.mk #[71, 69, 84]) = true := by decide
  clear h
  unfold reqV
  unfold reqV at H
  go_enter Tryz.func67, Tryz.ntmps67
  go_wp2
  go_ret2
  exact ⟨rfl, H.out⟩
end Go.Proofs.YtbgnggkgmeagkaaGreatDoor
namespace Go.Proofs.YtbgnggkgmeagkaaGreatDoor
open Go.RowKit
theorem Sep.cap {w : World} {L : List Atom} {i n c : Nat} {e : TypeId} {A : Option Addr} {xs : List Value} (h : Sep w L) (hi : L[i]? = some (rowA e 1 (.slice A n c) n xs)) : n ≤ c := by
  obtain ⟨_, ⟨h0, h1⟩ | ⟨_, _, _, h1, _, _, h2, _⟩⟩ := h.row hi
  · cases h0; omega
  · cases h1; exact h2
set_option maxRecDepth 100000 in
set_option maxHeartbeats 1000000 in
theorem cl_out {w : World} {F : List Atom} {kb C M n c : Nat} {A : Option Addr} {ord inn part : Value} {win last on : Int} {ends : Bool} (h : Sep w (blkA kb 126 (cliV C M ord inn (.slice A n c) win last part on ends) :: F)) :
    Calls Tryz.prog 16 #[.pointer (some ⟨kb, 0, none⟩)] w fun e w' => e = .returned (.slice A n c) ∧ Sep w' (blkA kb 126 (cliV C M ord inn (.slice none 0 0) win last part on ends) :: F) := by
  have kK := h.at_ (i := 0) rfl
  have H := Lib.hid h
  unfold cliV at kK
  clear h
  go_enter Tryz.func16, Tryz.ntmps16
  go_wp2
  go_ret
  exact ⟨rfl, H.out.set_ (i := 0) rfl 4 (.slice none 0 0)⟩
set_option maxRecDepth 100000 in
set_option maxHeartbeats 1000000 in
theorem cn_out {w : World} {L : List Atom} {i kb C S M n c : Nat} {A : Option Addr} {ord inn part evs : Value} {iw ow un : Int} {began : Bool} (h : Sep w L) (hi : L[i]? = some (blkA kb 200 (conV C S M ord inn (.slice A n c) iw ow un began part evs))) :
    Calls Tryz.prog 62 #[.pointer (some ⟨kb, 0, none⟩)] w fun e w' => e = .returned (.slice A n c) ∧ Sep w' (L.set i (blkA kb 200 (conV C S M ord inn (.slice none 0 0) iw ow un began part evs))) := by
  have kK := h.at_ hi
  have H := Lib.hid (h.set_ hi 5 (.slice none 0 0))
  unfold conV at kK
  clear h hi
  go_enter Tryz.func62, Tryz.ntmps62
  go_wp2
  go_ret
  exact ⟨rfl, H.out⟩
set_option maxRecDepth 100000 in
set_option maxHeartbeats 1000000 in
theorem ga_out {w : World} {F : List Atom} {g kb C S M n c Li St CM JM : Nat} {A : Option Addr} {R log ord inn part evs : Value} {last iw ow un : Int} {began : Bool} (h : Sep w (blkA g 120 (gatV kb R Li St CM JM last log) :: blkA kb 200 (conV C S M ord inn (.slice A n c) iw ow un began part evs) :: F)) :
    Calls Tryz.prog 21 #[.pointer (some ⟨g, 0, none⟩)] w fun e w' => e = .returned (.slice A n c) ∧ Sep w' (blkA g 120 (gatV kb R Li St CM JM last log) :: blkA kb 200 (conV C S M ord inn (.slice none 0 0) iw ow un began part evs) :: F) := by
  have kK := h.at_ (i := 0) rfl
  have H := Lib.hid h
  unfold gatV at kK
  clear h
  go_enter Tryz.func21, Tryz.ntmps21
  go_wp2_with fail
  refine (cn_out H.out (i := 1) rfl).mono ?_
  rintro e w2 ⟨rfl, h2⟩
  have H2 := Lib.hid h2
  clear h2
  go_wp2
  go_ret
  exact ⟨rfl, H2.out⟩
end Go.Proofs.YtbgnggkgmeagkaaGreatDoor
namespace Go.Proofs.YtbgnggkgmeagkaaGreatDoor
open Go.RowKit
theorem Sep.rowAt {w : World} {L : List Atom} {i n c : Nat} {e : TypeId} {A : Option Addr} {xs : List Value} (h : Sep w L) (hi : L[i]? = some (rowA e 1 (.slice A n c) n xs)) (h0 : 0 < n) : ∃ g, A = some ⟨g, 0, none⟩ ∧ g < w.heap.size := by
  obtain ⟨_, ⟨h2, h1⟩ | ⟨g, _, _, h1, _, h3, _, _⟩⟩ := h.row hi
  · cases h2; omega
  · cases h1; exact ⟨g, rfl, (Array.getElem?_eq_some_iff.1 h3).1⟩
theorem eq_short (w : World) : (binOp .eql 28 (.iface 95 (.int .i64 8)) (.iface 95 (.int .i64 8))).run Tryz.prog w = .ok (.bool true) w := by kernel_rfl
theorem eq_nil8 (w : World) : (binOp .eql 28 .nilIface (.iface 95 (.int .i64 8))).run Tryz.prog w = .ok (.bool false) w := by kernel_rfl
theorem eq_8nil (w : World) : (binOp .eql 28 (.iface 95 (.int .i64 8)) .nilIface).run Tryz.prog w = .ok (.bool false) w := by kernel_rfl
theorem eq_8_4 (w : World) : (binOp .eql 28 (.iface 95 (.int .i64 8)) (.iface 95 (.int .i64 4))).run Tryz.prog w = .ok (.bool false) w := by kernel_rfl
set_option maxRecDepth 100000 in
set_option maxHeartbeats 2000000 in
theorem cf_short {w : World} {F : List Atom} {kb C M n c k bc : Nat} {A B : Option Addr} {ord out part : Value} {xs ys : List UInt8} {win last on : Int} {ends : Bool}
    (hn : n = xs.length) (hk : k = ys.length) (hs : n + k ≤ 1000) (hB : ∀ w', Sep w' F → Reads w' w'.heap.size 1 B k (bs ys)) (hS : frmR (xs ++ ys) = (frm0, 0, 8))
    (h : Sep w (blkA kb 126 (cliV C M ord (.slice A n c) out win last part on ends) :: rowA 5 1 (.slice A n c) n (bs xs) :: F)) :
    Calls Tryz.prog 116 #[.pointer (some ⟨kb, 0, none⟩), .slice B k bc] w fun e w' => e = .returned .nilIface ∧
      ∃ A' c', Sep w' (blkA kb 126 (cliV C M ord (.slice A' (n + k) c') out win last part on ends) :: rowA 5 1 (.slice A' (n + k) c') (n + k) (bs (xs ++ ys)) :: F) := by
  have kK := h.at_ (i := 0) rfl
  have HR := Lib.hid (hB _ h.tail.tail)
  have H := Lib.hid h
  have HN := Lib.hid hn
  have HK := Lib.hid hk
  have HS := Lib.hid hS
  unfold cliV at kK
  clear h hB hS hn hk
  go_enter Tryz.func116, Tryz.ntmps116
  go_wp2_with (at_builtin; refine wpList_joinS (i := 1) rfl _ _ rfl _ n (bs xs) H.out rfl rfl _ _ _ _ HR.out rfl (by omega) ?_; intro A2 c2 w2 h2 _; have hK2 := h2.at_ (i := 0) rfl; have H2 := Lib.hid h2; unfold cliV at hK2; clear h2 kK)
  refine wp_loop_rounds 1 ?_
  rw [rounds_succ]
  go_wp2_with fail
  obtain ⟨w3, hw3⟩ : ∃ w3, w2.setCell ⟨kb, 3, none⟩ (.slice A2 (n + k) c2) = w3 := ⟨_, rfl⟩
  have h3 := H2.out.set_ (i := 0) rfl 3 (.slice A2 (n + k) c2)
  rw [hw3] at h3 ⊢
  change Sep w3 (blkA kb _ (cliV C M ord (.slice A2 (n + k) c2) out win last part on ends) :: rowA _ 1 _ (n + k) (bs xs ++ bs ys) :: F) at h3
  rw [← bs_append] at h3
  have hl : (xs ++ ys).length = n + k := by rw [List.length_append, ← HN.out, ← HK.out]
  refine (fread_any (xs ++ ys) A2 (n + k) c2 hl.symm (by rw [hl]; exact h3.cap (i := 1) rfl) (by omega) w3 (by rw [hl]; exact reads_sep h3 (i := 1) rfl)).mono ?_
  rintro e w4 ⟨v, rfl, A4, c4, rfl, -, hb4⟩
  rw [HS.out, errV_pos (by decide)]
  have H4 := Lib.hid (h3.below hb4)
  clear hK2 h3 hb4 hw3 hl
  unfold frV frm0
  have HW := Lib.hid (H4.out.alloc (.cells #[.int .i64 0, .int .i64 0, .int .i64 0, .slice A4 0 c4] 134))
  have qe := eq_short
  go_wp2
  go_ret
  exact ⟨rfl, A2, c2, HW.out⟩
set_option maxRecDepth 100000 in
set_option maxHeartbeats 4000000 in
theorem cf_one {w : World} {F : List Atom} {kb C M n c k bc u z : Nat} {A B : Option Addr} {ord out part : Value} {xs ys : List UInt8} {win last on : Int} {ends : Bool} (f : Frm) (zs : List UInt8)
    (hn : n = xs.length) (hk : k = ys.length) (hs : n + k ≤ 1000) (hB : ∀ w', Sep w' F → Reads w' w'.heap.size 1 B k (bs ys)) (hS : frmR (xs ++ ys) = (f, u, 0)) (hu : u ≤ n + k) (hu0 : 0 < n + k) (hz : (xs ++ ys).drop u = zs) (hzl : z = zs.length) (hS2 : frmR zs = (frm0, 0, 8))
    (R : Value → Value → Value → Int → Int → Int → Bool → List Atom → Prop)
    (hH : ∀ (w1 : World) (A1 BA : Option Addr) (c1 b1 : Nat), Sep w1 (rowA 5 1 (.slice BA f.body.length b1) f.body.length (bs f.body) :: blkA kb 126 (cliV C M ord (.slice A1 (n + k) c1) out win last part on ends) :: rowA 5 1 (.slice A1 (n + k) c1) (n + k) (bs (xs ++ ys)) :: F) →
      Calls Tryz.prog 171 #[.pointer (some ⟨kb, 0, none⟩), frV f BA b1] w1 fun e w' => e = .returned (.bool true) ∧ ∃ ord out part win last on ends G, R ord out part win last on ends G ∧
        Sep w' (blkA kb 126 (cliV C M ord (.slice A1 (n + k) c1) out win last part on ends) :: rowA 5 1 (.slice A1 (n + k) c1) (n + k) (bs (xs ++ ys)) :: G))
    (h : Sep w (blkA kb 126 (cliV C M ord (.slice A n c) out win last part on ends) :: rowA 5 1 (.slice A n c) n (bs xs) :: F)) :
    Calls Tryz.prog 116 #[.pointer (some ⟨kb, 0, none⟩), .slice B k bc] w fun e w' => e = .returned .nilIface ∧
      ∃ ord out part win last on ends G A' c', R ord out part win last on ends G ∧ Sep w' (blkA kb 126 (cliV C M ord (.slice A' z c') out win last part on ends) :: rowA 5 1 (.slice A' z c') z (bs zs) :: G) := by
  subst hzl
  have kK := h.at_ (i := 0) rfl
  have HR := Lib.hid (hB _ h.tail.tail)
  have H := Lib.hid h
  have HN := Lib.hid hn
  have HK := Lib.hid hk
  have HS := Lib.hid hS
  have HS2 := Lib.hid hS2
  have HZ := Lib.hid hz
  have HH := Lib.hid hH
  unfold cliV at kK
  clear h hB hS hn hk hS2 hz hH
  go_enter Tryz.func116, Tryz.ntmps116
  go_wp2_with (at_builtin; refine wpList_joinS (i := 1) rfl _ _ rfl _ n (bs xs) H.out rfl rfl _ _ _ _ HR.out rfl (by omega) ?_; intro A2 c2 w2 h2 _; have hK2 := h2.at_ (i := 0) rfl; have H2 := Lib.hid h2; unfold cliV at hK2; clear h2 kK)
  refine wp_loop_rounds 2 ?_
  rw [rounds_succ]
  go_wp2_with fail
  obtain ⟨w3, hw3⟩ : ∃ w3, w2.setCell ⟨kb, 3, none⟩ (.slice A2 (n + k) c2) = w3 := ⟨_, rfl⟩
  have h3 := H2.out.set_ (i := 0) rfl 3 (.slice A2 (n + k) c2)
  rw [hw3] at h3 ⊢
  change Sep w3 (blkA kb _ (cliV C M ord (.slice A2 (n + k) c2) out win last part on ends) :: rowA _ 1 _ (n + k) (bs xs ++ bs ys) :: F) at h3
  rw [← bs_append] at h3
  have hl : (xs ++ ys).length = n + k := by rw [List.length_append, ← HN.out, ← HK.out]
  obtain ⟨g2, rfl, -⟩ := h3.rowAt (i := 1) rfl hu0
  have hc2 := h3.cap (i := 1) rfl
  have HL := Lib.hid hl
  refine (fread_any (xs ++ ys) (some ⟨g2, 0, none⟩) (n + k) c2 hl.symm (by rw [hl]; exact hc2) (by omega) w3 (by rw [hl]; exact reads_sep h3 (i := 1) rfl)).mono ?_
  rintro e w4 ⟨v, rfl, A4, c4, rfl, hown4, hb4⟩
  rw [HS.out] at hown4 ⊢
  rw [errV_zero]
  have H4 := Lib.hid ((h3.newRow hb4 hown4).newBlk 134 #[.int .i64 f.K, .int .i64 f.F, .int .i64 f.S, .slice A4 f.body.length c4])
  have qe := eq_nil8
  clear hK2 h3 hb4 hw3 hl hown4 H H2 HR
  unfold frV
  go_wp2_with fail
  refine (HH.out _ _ A4 c2 c4 H4.out.tail).mono ?_
  rintro e w5 ⟨rfl, ord', out', part', win', last', on', ends', G, hR, h5⟩
  have kK := h5.at_ (i := 0) rfl
  have hr5 := (reads_sep h5 (i := 1) rfl).cut (k := u) (cap := c2) hu hc2
  rw [Nat.mul_one, bs_drop, HZ.out] at hr5
  have hzn : n + k - u = zs.length := by rw [← HZ.out, List.length_drop, HL.out]
  have HZN := Lib.hid hzn
  rw [hzn] at hr5
  have H5 := Lib.hid h5
  have HR5 := Lib.hid hR
  unfold cliV at kK
  clear h5 hR hzn
  by_cases hcu : c2 = u
  all_goals
    first
      | (rw [if_pos hcu] at hr5; have hr6 := hr5)
      | (rw [if_neg hcu] at hr5; have hr6 : Reads w5 w5.heap.size 1 (some ⟨g2, u, none⟩) zs.length (bs zs) := by simpa [Addr.add_lit] using hr5)
    have HC := Lib.hid hr6
    clear hr5 hr6
    go_wp2_with fail
    refine (clone_any _ zs _ _ HZN.out (fun e => by cases e) (by have := HZN.out; omega) w5 HC.out).mono ?_
    rintro e w6 ⟨A6, c6, rfl, hown6, hb6⟩
    have h6 := H5.out.newRow hb6 hown6
    clear kK HC H5
    have kK := h6.at_ (i := 1) rfl
    have H6 := Lib.hid h6
    unfold cliV at kK
    clear h6 hown6 hb6
    go_wp2_with fail
    rw [rounds_succ]
    obtain ⟨w7, hw7⟩ : ∃ w7, w6.setCell ⟨kb, 3, none⟩ (.slice A6 zs.length c6) = w7 := ⟨_, rfl⟩
    have h7 := H6.out.set_ (i := 1) rfl 3 (.slice A6 zs.length c6)
    rw [hw7] at h7 ⊢
    change Sep w7 (_ :: blkA kb _ (cliV C M ord' (.slice A6 zs.length c6) out' win' last' part' on' ends') :: _) at h7
    clear kK H6 hw7
    have kK := h7.at_ (i := 1) rfl
    have H7 := Lib.hid h7
    unfold cliV at kK
    clear h7
    go_wp2_with fail
    refine (fread_any zs A6 zs.length c6 rfl (H7.out.cap (i := 0) rfl) (by have := HZN.out; omega) w7 (reads_sep H7.out (i := 0) rfl)).mono ?_
    rintro e w8 ⟨v, rfl, A8, c8, rfl, -, hb8⟩
    rw [HS2.out, errV_pos (by decide)]
    have HW := Lib.hid ((H7.out.below hb8).alloc (.cells #[.int .i64 0, .int .i64 0, .int .i64 0, .slice A8 0 c8] 134))
    have qe2 := eq_short
    clear kK H7 hb8
    unfold frV frm0
    go_wp2
    go_ret
    exact ⟨rfl, _, _, _, _, _, _, _, _, _, _, HR5.out, (HW.out.drop_ 2).front 1 rfl⟩
end Go.Proofs.YtbgnggkgmeagkaaGreatDoor
namespace Go.Proofs.YtbgnggkgmeagkaaGreatDoor
open Go.RowKit Go.Shelf
def setE : Frm := ⟨4, 1, 0, []⟩
def setEB : List UInt8 := [0, 0, 0, 4, 1, 0, 0, 0, 0]
theorem setE_ok : frmE setE = 0 ∧ frmL setE = setEB := by decide
theorem results_bool1 {P : Program} {fn : Func} {p : Tmp} {ty : TypeId} (h : fn.results = #[.cell p ty]) (tmps : Array Value) (w : World) (g : Nat) (v : Value)
    (hp : tmps.getD p undef = .pointer (some ⟨g, 0, none⟩)) (hg : w.cell? ⟨g, 0, none⟩ = some v) (hu : P.underlying ty = some .bool) :
    (results fn tmps).run P w = .ok v w := by
  have hp' : tmps[p]?.getD undef = .pointer (some ⟨g, 0, none⟩) := by simpa using hp
  simp [results, h, hp', asAddr, loadVar, isAgg, run_underlying hu, hg, go_sem]
set_option maxRecDepth 100000 in
set_option maxHeartbeats 4000000 in
theorem cl_settings {w : World} {F : List Atom} {kb C M oc n c bc : Nat} {OA A BA : Option Addr} {inn part : Value} {xs : List UInt8} {win last on : Int} {ends : Bool} (hn : n ≤ 1000)
    (h : Sep w (blkA kb 126 (cliV C M (.slice OA 0 oc) inn (.slice A n c) win last part on ends) :: rowA 5 1 (.slice A n c) n (bs xs) :: F)) :
    Calls Tryz.prog 248 #[.pointer (some ⟨kb, 0, none⟩), .slice BA 0 bc] w fun e w' => e = .returned (.bool true) ∧ ∃ A' c', Sep w' (blkA kb 126 (cliV C M (.slice OA 0 oc) inn (.slice A' (n + 9) c') win last part on ends) :: rowA 5 1 (.slice A' (n + 9) c') (n + 9) (bs (xs ++ setEB)) :: F) := by
  have h1 := h.newBlk 52 #[.pointer (some ⟨kb, 0, none⟩)]
  have h2 := h1.newBlk 4 #[.bool false]
  simp only [World.size_alloc] at h2
  have H2 := Lib.hid h2
  clear h h1 h2
  refine (callsIn_wide (n := 7)).1 ?_
  refine callsIn_of_wp_marks Tryz.func248 rfl trivial ?_ rfl
  simp only [Tryz.ntmps248, List.size_toArray, List.length_cons, List.length_nil, Nat.reduceAdd, Nat.reduceSub, Array.replicate_succ, Array.replicate_zero, List.push_toArray, List.append_toArray, List.nil_append, List.cons_append]
  gi_wp2_with (first
    | (refine ⟨trivial, ?_⟩; gi_at_call 105; refine (chunk6_newC Fence.wide _ trivial rfl _ _ _ _).mono ?_; rintro e w' ⟨rfl, rfl⟩)
    | (refine ⟨trivial, ?_⟩))
  obtain ⟨w1, hw1⟩ : ∃ w1, (w.alloc (.cells #[.pointer (some ⟨kb, 0, none⟩)] 52)).alloc (.cells #[.bool false] 4) = w1 := ⟨_, rfl⟩
  have hsz : w.heap.size + 1 + 1 = w1.heap.size := by rw [← hw1]; simp
  rw [hw1, hsz]
  rw [hw1] at H2
  clear hw1 hsz
  refine wpIn_rangeFunc_zero rfl (by decide) (gf := 159) (lb := #[.pointer (some ⟨w1.heap.size, 0, none⟩), .pointer (some ⟨w1.heap.size + 1, 0, none⟩)]) rfl trivial (enters_of Tryz.func159 (by kernel_rfl) rfl) (fun l W hW => zero_it (by simpa using hW) _) ?_
  intro D W hD hW hK
  have hs2 : w1.heap.size + 2 ≤ D := by simpa using hD
  have hbW : Below w1.heap.size w1 W := (((Below.refl _ w1).alloc (Nat.le_refl _) _).alloc (by simp) _).trans (hW.mono (by simp; omega))
  have h3 := ((H2.out.newDef hbW (by omega) hK).front 4 rfl).front 4 rfl
  have kB := h3.at_ (i := 4) rfl
  have H3 := Lib.hid h3
  clear hD hW hK hs2 hbW h3 H2
  gi_wp2_with (first
    | (refine ⟨trivial, ?_⟩; gi_at_call 55; refine (callsIn_wide.2 (csay setE setE_ok.1 none 0 Reads.none_ kb (xs := xs) (by omega) H3.out)).mono ?_; rintro e w4 ⟨rfl, A4, c4, h4⟩; rw [setE_ok.2] at h4; have kB4 := h4.at_ (i := 4) rfl; have H4 := Lib.hid h4; clear h4 kB)
    | (refine ⟨trivial, ?_⟩; gi_at_call 58; refine (callsIn_wide.2 (cp_none (w := w4) H4.out)).mono ?_; rintro e w5 ⟨rfl, h5⟩; have kB5 := h5.at_ (i := 3) rfl; have H5 := Lib.hid h5; clear h5 kB4))
  have h6 := (H5.out.set_ (i := 3) rfl 0 (.bool true)).front 2 rfl
  refine ⟨by simp, .inl ⟨_, _, rfl, run_takeDeferred (h6.def_ (i := 0) rfl), ?_⟩⟩
  have h7 := h6.shut (.deferred none)
  exact ⟨_, results_bool1 rfl _ _ (w.heap.size + 1) (.bool true) rfl ((h7.at_ (i := 2) rfl).1 0) Tryz.underlying4, rfl, A4, c4, (h7.drop_ 2).drop_ 2⟩
set_option maxRecDepth 100000 in
set_option maxHeartbeats 4000000 in
theorem cl_hear_set {w : World} {F : List Atom} {kb C M oc n c bc : Nat} {OA A BA : Option Addr} {inn part : Value} {xs : List UInt8} {win last : Int} {ends : Bool} (hn : n ≤ 1000)
    (h : Sep w (blkA kb 126 (cliV C M (.slice OA 0 oc) inn (.slice A n c) win last part 0 ends) :: rowA 5 1 (.slice A n c) n (bs xs) :: F)) :
    Calls Tryz.prog 171 #[.pointer (some ⟨kb, 0, none⟩), .agg #[.int .i64 4, .int .i64 0, .int .i64 0, .slice BA 0 bc]] w fun e w' => e = .returned (.bool true) ∧ ∃ A' c', Sep w' (blkA kb 126 (cliV C M (.slice OA 0 oc) inn (.slice A' (n + 9) c') win last part 0 ends) :: rowA 5 1 (.slice A' (n + 9) c') (n + 9) (bs (xs ++ setEB)) :: F) := by
  have h1 := h.newBlk 134 #[.int .i64 4, .int .i64 0, .int .i64 0, .slice BA 0 bc]
  have kX := h1.at_ (i := 0) rfl
  have kK := h1.at_ (i := 1) rfl
  have H1 := Lib.hid h1
  unfold cliV at kK
  clear h h1
  go_enter Tryz.func171, Tryz.ntmps171
  go_wp2
  go_quiet (fail)
  obtain ⟨w2, hw2⟩ : ∃ w2, (w.alloc (.cells #[.int .i64 4, .int .i64 0, .int .i64 0, .slice BA 0 bc] 134)).drewN nq = w2 := ⟨_, rfl⟩
  have h2 := H1.out.drewN nq
  rw [hw2] at h2 ⊢
  clear kX kK H1 hw2
  have kX := h2.at_ (i := 0) rfl
  have kK := h2.at_ (i := 1) rfl
  have H2 := Lib.hid h2
  unfold cliV at kK
  clear h2
  go_wp2_with (first
    | (go_at_call 213; refine (chk_set 0 BA bc w2).mono ?_; rintro e w3 ⟨rfl, hb3⟩; have h3 := H2.out.below hb3; have kX3 := h3.at_ (i := 0) rfl; have kK3 := h3.at_ (i := 1) rfl; have H3 := Lib.hid h3; unfold cliV at kK3; clear h3 hb3 kX kK)
    | (go_at_call 248; refine (cl_settings (w := w3) hn H3.out.tail).mono ?_; rintro e w4 ⟨rfl, A4, c4, h4⟩; have H4 := Lib.hid h4; clear h4))
  go_ret
  exact ⟨rfl, A4, c4, H4.out⟩
set_option maxRecDepth 100000 in
set_option maxHeartbeats 4000000 in
theorem cl_hear_ans {w : World} {F : List Atom} {kb C M bc : Nat} {BA : Option Addr} {ord inn out part : Value} {win last : Int} {ends : Bool}
    (h : Sep w (blkA kb 126 (cliV C M ord inn out win last part 0 ends) :: F)) :
    Calls Tryz.prog 171 #[.pointer (some ⟨kb, 0, none⟩), .agg #[.int .i64 4, .int .i64 1, .int .i64 0, .slice BA 0 bc]] w fun e w' => e = .returned (.bool true) ∧ Sep w' (blkA kb 126 (cliV C M ord inn out win last part 0 ends) :: F) := by
  have h1 := h.newBlk 134 #[.int .i64 4, .int .i64 1, .int .i64 0, .slice BA 0 bc]
  have kX := h1.at_ (i := 0) rfl
  have kK := h1.at_ (i := 1) rfl
  have H1 := Lib.hid h1
  unfold cliV at kK
  clear h h1
  go_enter Tryz.func171, Tryz.ntmps171
  go_wp2
  go_quiet (fail)
  obtain ⟨w2, hw2⟩ : ∃ w2, (w.alloc (.cells #[.int .i64 4, .int .i64 1, .int .i64 0, .slice BA 0 bc] 134)).drewN nq = w2 := ⟨_, rfl⟩
  have h2 := H1.out.drewN nq
  rw [hw2] at h2 ⊢
  clear kX kK H1 hw2
  have kX := h2.at_ (i := 0) rfl
  have kK := h2.at_ (i := 1) rfl
  have H2 := Lib.hid h2
  unfold cliV at kK
  clear h2
  go_wp2_with (first
    | (go_at_call 213; refine (chk_set 1 BA bc w2).mono ?_; rintro e w3 ⟨rfl, hb3⟩; have h3 := H2.out.below hb3; have kX3 := h3.at_ (i := 0) rfl; have kK3 := h3.at_ (i := 1) rfl; have H3 := Lib.hid h3; unfold cliV at kK3; clear h3 hb3 kX kK))
  go_ret
  exact ⟨rfl, H3.out.tail⟩
end Go.Proofs.YtbgnggkgmeagkaaGreatDoor
namespace Go.Proofs.YtbgnggkgmeagkaaGreatDoor
open Go.RowKit
set_option maxRecDepth 100000 in
set_option maxHeartbeats 1000000 in
theorem ci_nil (w : World) :
    Calls Tryz.prog 301 #[.slice none 0 0] w fun e w' => e = .returned (.slice none 0 0) ∧ Below w.heap.size w w' := by
  have q := Lib.run_eql_slice_nil (P := Tryz.prog) w 58 3 none 0 0 0 0 Tryz.underlying58
  go_enter Tryz.func301, Tryz.ntmps301
  go_wp2
  go_ret
  exact ⟨rfl, Below.refl _ _⟩
set_option maxRecDepth 100000 in
set_option maxHeartbeats 1000000 in
/-- A clone of numbers. -/
theorem ci_some {w : World} {F : List Atom} {i n c : Nat} {A : Option Addr} {xs : List Value} (h : Sep w F) (hi : F[i]? = some (rowA 3 1 (.slice A n c) n xs)) (hA : ∃ g, A = some ⟨g, 0, none⟩) (hn : n ≤ 1000) (h1 : ∀ u ∈ xs, u.oneCell' = true) :
    Calls Tryz.prog 301 #[.slice A n c] w fun e w' => ∃ A' c', e = .returned (.slice A' n c') ∧ Sep w' (rowA 3 1 (.slice A' n c') n xs :: F) := by
  obtain ⟨g, rfl⟩ := hA
  have ho := own_empty w 3 1
  have hb := (Below.refl w.heap.size w).alloc (Nat.le_refl _) (.cells #[] 3)
  have HO := Lib.hid ho
  have HB := Lib.hid hb
  have HR := Lib.hid (reads_sep (h.below hb) hi)
  have H := Lib.hid h
  have HI := Lib.hid h1
  clear ho hb h hi h1
  have q := Lib.run_eql_slice_nil (P := Tryz.prog) w 58 3 (some ⟨g, 0, none⟩) n c 0 0 Tryz.underlying58
  obtain ⟨i0, hi0, hz0, hz1, hz2⟩ := info_parts int_info
  go_enter Tryz.func301, Tryz.ntmps301
  go_wp2_with (at_builtin; refine wpList_append_any _ rfl _ _ 58 rfl w.heap.size 3 i0 (.int .i64 0) 1 8 Tryz.underlying58 hi0 hz0 hz1 hz2 rfl (by decide) _ 0 [] rfl HO.out _ (some ⟨g, 0, none⟩) n c xs rfl HR.out HI.out (by unfold maxLen; omega) (by omega) (by simp) ?_; intro v' w' hown' hg _; have hb2 := below_append HB.out HO.out hg (by simp))
  go_ret
  rw [Nat.zero_add, List.nil_append] at hown'
  obtain ⟨A', c', rfl⟩ := own_slice hown'
  exact ⟨A', c', rfl, H.out.newRow hb2 hown'⟩
/-- No number in the order: nil, or a row that is empty. -/
def OrdAt (F : List Atom) (OA : Option Addr) (oc : Nat) : Prop := (OA = none ∧ oc = 0) ∨ ∃ (g : Nat) (i : Nat), OA = some ⟨g, 0, none⟩ ∧ F[i]? = some (rowA 3 1 (.slice OA 0 oc) 0 [])
theorem ord_clone {w : World} {F : List Atom} {a b : Atom} {OA : Option Addr} {oc : Nat} (h : Sep w (a :: b :: F)) (ho : OrdAt F OA oc) :
    Calls Tryz.prog 301 #[.slice OA 0 oc] w fun e w' => ∃ A' c', e = .returned (.slice A' 0 c') ∧ Sep w' (a :: b :: F) := by
  rcases ho with ⟨rfl, rfl⟩ | ⟨g, i, rfl, hi⟩
  · refine (ci_nil w).mono ?_
    rintro e w' ⟨rfl, hb⟩
    exact ⟨_, _, rfl, h.below hb⟩
  · refine (ci_some h (i := i + 2) hi ⟨g, rfl⟩ (by decide) (by simp)).mono ?_
    rintro e w' ⟨A', c', rfl, h1⟩
    exact ⟨_, _, rfl, h1.tail⟩
set_option maxRecDepth 100000 in
set_option maxHeartbeats 4000000 in
theorem np_none {w : World} {F : List Atom} {kb C S M oc : Nat} {OA : Option Addr} {inn out part evs : Value} {iw ow un : Int} {began : Bool} (ho : OrdAt F OA oc) (h : Sep w (blkA kb 200 (conV C S M (.slice OA 0 oc) inn out iw ow un began part evs) :: F)) :
    Calls Tryz.prog 253 #[.pointer (some ⟨kb, 0, none⟩)] w fun e w' => e = .returned (.tuple #[]) ∧ Sep w' (blkA kb 200 (conV C S M (.slice OA 0 oc) inn out iw ow un began part evs) :: F) := by
  have h1 := h.newBlk 111 #[.pointer (some ⟨kb, 0, none⟩)]
  have kX := h1.at_ (i := 0) rfl
  have kK := h1.at_ (i := 1) rfl
  have n1 : kb ≠ w.heap.size := h1.ne_ (i := 1) (i' := 0) rfl rfl (by decide)
  have HC := Lib.hid (ord_clone h1 ho)
  unfold conV at kK
  clear h h1 ho
  go_enter Tryz.func253, Tryz.ntmps253
  go_wp2_with fail
  refine HC.out.mono ?_
  rintro e w2 ⟨A', c', rfl, h2⟩
  have H2 := Lib.hid h2.drew
  clear kX kK HC
  have kX := h2.at_ (i := 0) rfl
  have kK := h2.at_ (i := 1) rfl
  unfold conV at kK
  clear h2
  go_wp2
  refine wp_loop_rounds 1 ?_
  rw [rounds_succ]
  go_wp2
  go_region_with (go_at_call 108; refine (del_none _ _ _ _).mono ?_; rintro e w8 ⟨rfl, rfl⟩)
  all_goals
    go_wp2
    refine bodyPost_end (results_none rfl _ _ _) rfl ?_
    refine ⟨rfl, ?_⟩
    have h9 := H2.out.set_ (i := 1) rfl 3 (.slice OA 0 oc)
    exact h9.drop_ 0
end Go.Proofs.YtbgnggkgmeagkaaGreatDoor
namespace Go.Proofs.YtbgnggkgmeagkaaGreatDoor
open Go.RowKit Go.Shelf
set_option maxRecDepth 100000 in
set_option maxHeartbeats 4000000 in
theorem cn_settings {w : World} {F : List Atom} {kb C S M n c bc : Nat} {A BA : Option Addr} {inn part evs : Value} {xs : List UInt8} {iw ow un : Int} {began : Bool} (hn : n ≤ 1000)
    (h : Sep w (blkA kb 200 (conV C S M (.slice none 0 0) inn (.slice A n c) iw ow un began part evs) :: rowA 5 1 (.slice A n c) n (bs xs) :: F)) :
    Calls Tryz.prog 220 #[.pointer (some ⟨kb, 0, none⟩), .slice BA 0 bc] w fun e w' => e = .returned (.tuple #[]) ∧ ∃ A' c', Sep w' (blkA kb 200 (conV C S M (.slice none 0 0) inn (.slice A' (n + 9) c') iw ow un began part evs) :: rowA 5 1 (.slice A' (n + 9) c') (n + 9) (bs (xs ++ setEB)) :: F) := by
  have h2 := h.newBlk 111 #[.pointer (some ⟨kb, 0, none⟩)]
  have H2 := Lib.hid h2
  clear h h2
  refine (callsIn_wide (n := 7)).1 ?_
  refine callsIn_of_wp_marks Tryz.func220 rfl trivial ?_ rfl
  simp only [Tryz.ntmps220, List.size_toArray, List.length_cons, List.length_nil, Nat.reduceAdd, Nat.reduceSub, Array.replicate_succ, Array.replicate_zero, List.push_toArray, List.append_toArray, List.nil_append, List.cons_append]
  gi_wp2_with (first
    | (refine ⟨trivial, ?_⟩; gi_at_call 105; refine (chunk6_newC Fence.wide _ trivial rfl _ _ _ _).mono ?_; rintro e w' ⟨rfl, rfl⟩)
    | (refine ⟨trivial, ?_⟩))
  obtain ⟨w1, hw1⟩ : ∃ w1, w.alloc (.cells #[.pointer (some ⟨kb, 0, none⟩)] 111) = w1 := ⟨_, rfl⟩
  have hsz : w.heap.size + 1 = w1.heap.size := by rw [← hw1]; simp
  rw [hw1, hsz]
  rw [hw1] at H2
  clear hw1 hsz
  refine wpIn_rangeFunc_zero rfl (by decide) (gf := 159) (lb := #[.pointer (some ⟨w1.heap.size, 0, none⟩), .pointer (some ⟨w1.heap.size + 1, 0, none⟩)]) rfl trivial (enters_of Tryz.func159 (by kernel_rfl) rfl) (fun l W hW => zero_it (by simpa using hW) _) ?_
  intro D W hD hW hK
  have hs2 : w1.heap.size + 2 ≤ D := by simpa using hD
  have hbW : Below w1.heap.size w1 W := (((Below.refl _ w1).alloc (Nat.le_refl _) _).alloc (by simp) _).trans (hW.mono (by simp; omega))
  have h3 := ((H2.out.newDef hbW (by omega) hK).front 3 rfl).front 3 rfl
  have kB := h3.at_ (i := 3) rfl
  have H3 := Lib.hid h3
  clear hD hW hK hs2 hbW h3 H2
  gi_wp2_with (first
    | (refine ⟨trivial, ?_⟩; gi_at_call 102; refine (callsIn_wide.2 (nsay setE setE_ok.1 none 0 Reads.none_ kb (xs := xs) (by omega) H3.out)).mono ?_; rintro e w4 ⟨rfl, A4, c4, h4⟩; rw [setE_ok.2] at h4; have kB4 := h4.at_ (i := 3) rfl; have H4 := Lib.hid h4; clear h4 kB)
    | (refine ⟨trivial, ?_⟩; gi_at_call 253; refine (callsIn_wide.2 (np_none (w := w4) (.inl ⟨rfl, rfl⟩) H4.out)).mono ?_; rintro e w5 ⟨rfl, h5⟩; have H5 := Lib.hid h5; clear h5 kB4))
  have h6 := H5.out.front 2 rfl
  refine ⟨by simp, .inl ⟨_, _, rfl, run_takeDeferred (h6.def_ (i := 0) rfl), ?_⟩⟩
  have h7 := h6.shut (.deferred none)
  exact ⟨_, results_none rfl _ _ _, rfl, A4, c4, h7.drop_ 2⟩
set_option maxRecDepth 100000 in
set_option maxHeartbeats 4000000 in
theorem cn_hear_set {w : World} {F : List Atom} {kb C S M n c bc : Nat} {A BA : Option Addr} {inn evs : Value} {xs : List UInt8} {iw ow un : Int} {began : Bool} (hn : n ≤ 1000)
    (h : Sep w (blkA kb 200 (conV C S M (.slice none 0 0) inn (.slice A n c) iw ow un began (.pointer none) evs) :: rowA 5 1 (.slice A n c) n (bs xs) :: F)) :
    Calls Tryz.prog 162 #[.pointer (some ⟨kb, 0, none⟩), .agg #[.int .i64 4, .int .i64 0, .int .i64 0, .slice BA 0 bc]] w fun e w' => e = .returned (.tuple #[]) ∧ ∃ A' c', Sep w' (blkA kb 200 (conV C S M (.slice none 0 0) inn (.slice A' (n + 9) c') iw ow un true (.pointer none) evs) :: rowA 5 1 (.slice A' (n + 9) c') (n + 9) (bs (xs ++ setEB)) :: F) := by
  have h1 := h.newBlk 134 #[.int .i64 4, .int .i64 0, .int .i64 0, .slice BA 0 bc]
  have kX := h1.at_ (i := 0) rfl
  have kK := h1.at_ (i := 1) rfl
  have H1 := Lib.hid h1
  unfold conV at kK
  clear h h1
  cases began
  all_goals
    go_enter Tryz.func162, Tryz.ntmps162
    go_wp2
    go_quiet (fail)
    obtain ⟨w2, hw2⟩ : ∃ w2, (w.alloc (.cells #[.int .i64 4, .int .i64 0, .int .i64 0, .slice BA 0 bc] 134)).drewN nq = w2 := ⟨_, rfl⟩
    have h2 := H1.out.drewN nq
    rw [hw2] at h2 ⊢
    clear kX kK H1 hw2
    have kX := h2.at_ (i := 0) rfl
    have kK := h2.at_ (i := 1) rfl
    have H2 := Lib.hid h2
    unfold conV at kK
    clear h2
    go_wp2_with fail
    refine (chk_set 0 BA bc w2).mono ?_
    rintro e w3 ⟨rfl, hb3⟩
    have h3 := H2.out.below hb3
    clear kX kK H2 hb3
    have kX := h3.at_ (i := 0) rfl
    have kK := h3.at_ (i := 1) rfl
    have n1 := h3.ne_ (i := 1) (i' := 0) rfl rfl (by decide)
    have n2 := Ne.symm n1
    have H3 := Lib.hid h3
    unfold conV at kK
    clear h3
    go_wp2_with fail
    obtain ⟨w4, hw4⟩ : ∃ w4, w3.setCell ⟨kb, 10, none⟩ (.bool true) = w4 := ⟨_, rfl⟩
    have h4 := H3.out.set_ (i := 1) rfl 10 (.bool true)
    rw [hw4] at h4 ⊢
    change Sep w4 (_ :: blkA kb _ (conV C S M (.slice none 0 0) inn (.slice A n c) iw ow un true (.pointer none) evs) :: _) at h4
    clear kX kK n1 n2 hw4
    refine (cn_settings hn h4.tail).mono ?_
    rintro e w5 ⟨rfl, A5, c5, h5⟩
    have H5 := Lib.hid h5
    clear h4 h5 H3
    go_wp2
    refine bodyPost_end (results_none rfl _ _ _) rfl ?_
    exact ⟨rfl, A5, c5, H5.out⟩
end Go.Proofs.YtbgnggkgmeagkaaGreatDoor
namespace Go.Proofs.YtbgnggkgmeagkaaGreatDoor
open Go.RowKit
set_option maxRecDepth 100000 in
set_option maxHeartbeats 1000000 in
theorem fl_giveS {w : World} {L : List Atom} {i b o n : Nat} {t : TypeId} {cs : Array Value} (h : Sep w L) (hi : L[i]? = some (blkA b t cs)) (hc : cs[o]? = some (.int .i64 (n : Int))) (hn : n ≤ 10000) :
    Calls Tryz.prog 278 #[.pointer (some ⟨b, o, none⟩), .int .i64 4] w fun e w' => e = .returned .nilIface ∧ Sep w' (L.set i (blkA b t (cs.setIfInBounds o (.int .i64 ((n + 4 : Nat) : Int))))) := by
  have h1 : w.cell? ⟨b, o, none⟩ = some (.int .i64 (n : Int)) := ((h.blk hi).cell o).trans hc
  have h2 : w.frozen? ⟨b, o, none⟩ = false := (h.blk hi).frozen o
  have hl := World.block_lt_of_cell? w _ h1
  have H := Lib.hid (h.set_ hi o (.int .i64 ((n : Int) + 4)))
  have e1 : wrap64 (2147483647 - ((n : Nat) : Int)) = 2147483647 - ((n : Nat) : Int) := by unfold wrap64; omega
  have e2 : ¬ (4 : Int) > 2147483647 - ((n : Nat) : Int) := by omega
  have e3 : ¬ 2147483647 - ((n : Nat) : Int) < 4 := by omega
  have e4 : wrap64 (((n : Nat) : Int) + 4) = ((n + 4 : Nat) : Int) := by unfold wrap64; omega
  clear h hi hc
  go_enter Tryz.func278, Tryz.ntmps278
  go_wp2
  go_ret
  exact ⟨rfl, H.out⟩
end Go.Proofs.YtbgnggkgmeagkaaGreatDoor
