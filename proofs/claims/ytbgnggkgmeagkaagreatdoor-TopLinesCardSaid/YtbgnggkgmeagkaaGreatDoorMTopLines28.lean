/-
  A connection takes a head. Condition: the first stream; no stream was seen.
  A gate does a request that is whole: it becomes a job. Condition: the first request of the closed run.
  What came is done with: conn.Used at one byte. Condition: nothing is due.
  A gate's event: a body came with the end; the request is done. Condition: the first request of the closed run.
-/
import Derived.Test.YtbgnggkgmeagkaaGreatDoorMTopLines27
import Derived.Test.YtbgnggkgmeagkaaGreatDoorMTopLines26
import Derived.Test.YtbgnggkgmeagkaaGreatDoorMTopLines15
import Derived.Test.YtbgnggkgmeagkaaGreatDoorMTopLines24
import Derived.Test.YtbgnggkgmeagkaaGreatDoorMTopLines23
set_option linter.unusedSimpArgs false
set_option linter.unusedVariables false
namespace Go.Proofs.YtbgnggkgmeagkaaGreatDoor
open Go.RowKit Go.Shelf
def partV (st many : Int) (en : Bool) (blk : Value) : Array Value := #[.int .i64 st, .int .i64 many, .bool en, blk]
def askFL : List Fld := [([58, 109, 101, 116, 104, 111, 100], [80, 79, 83, 84]), ([58, 112, 97, 116, 104], [47, 112]), ([58, 104, 111, 115, 116], [104])]
def ablkL : List UInt8 := [130, 67, 2, 47, 112, 68, 1, 104]
theorem ask_heard : heard 4096 [] 4096 [] ablkL = ⟨0, [([58, 104, 111, 115, 116], [104]), ([58, 112, 97, 116, 104], [47, 112])], 4096, askFL, 0⟩ := by kernel_rfl
set_option maxRecDepth 100000 in
set_option maxHeartbeats 4000000 in
theorem cn_whole {w : World} {F : List Atom} {kb C S M MS P gg hh c5 : Nat} {A5 : Option Addr} {ord inn out part : Value} {iw ow un : Int} {began : Bool}
    (h : Sep w (blkA C 93 (coderV gg hh) :: tabA hh none 0 [] 4096 :: rowA 5 1 (.slice A5 8 c5) 8 (bs ablkL) :: blkA kb 200 (conV C S M ord inn out iw ow un began part (.slice none 0 0)) :: mapA M #[] 0 ::
      blkA S 254 (stmV MS 0) :: mapA MS #[] 0 :: blkA P 307 (partV 1 1 false (.slice A5 8 c5)) :: F)) :
    Calls Tryz.prog 273 #[.pointer (some ⟨kb, 0, none⟩), .pointer (some ⟨P, 0, none⟩)] w fun e w' => e = .returned (.tuple #[]) ∧ ∃ X D dc E ec, Sep w' (blkA kb 200 (conV C S M ord inn out iw ow un began (.pointer none) (.slice E 1 ec)) ::
      rowA 215 6 (.slice E 1 ec) 1 (evV 1 1 0 (.slice D 3 dc) (.slice none 0 0) false).toList :: blkA X 313 (chnV 2000 2000 0 (.slice none 0 0) false false) :: mapA M (ent1 (.pointer (some ⟨X, 0, none⟩))) 1 ::
      blkA S 254 (stmV MS 1) :: mapA MS (ent1 (.int .i64 1)) 1 :: rowA 41 2 (.slice D 3 dc) 3 (fvs askFL) :: blkA C 93 (coderV gg hh) :: F) := by
  have kK := h.at_ (i := 3) rfl
  have kP := h.at_ (i := 7) rfl
  have n1 := h.ne_ (i := 3) (i' := 7) rfl rfl (by decide)
  have n2 := Ne.symm n1
  have H := Lib.hid h
  unfold conV at kK
  unfold partV at kP
  clear h
  go_enter Tryz.func273, Tryz.ntmps273
  go_wp2_with fail
  obtain ⟨w1, hw1⟩ : ∃ w1, w.setCell ⟨kb, 12, none⟩ (.pointer none) = w1 := ⟨_, rfl⟩
  have h1 := H.out.set_ (i := 3) rfl 12 (.pointer none)
  rw [hw1] at h1 ⊢
  change Sep w1 (_ :: _ :: _ :: blkA kb _ (conV C S M ord inn out iw ow un began (.pointer none) (.slice none 0 0)) :: _) at h1
  clear kK kP n1 n2 H hw1
  have kK := h1.at_ (i := 3) rfl
  have kP := h1.at_ (i := 7) rfl
  have H1 := Lib.hid h1.drew
  unfold conV at kK
  unfold partV at kP
  clear h1
  go_region_held3 (fun w' => w'.cell? ⟨kb, 0, none⟩ = some (.pointer (some ⟨C, 0, none⟩)) ∧ w'.cell? ⟨P, 3, none⟩ = some (.slice A5 8 c5)) (first | exact ⟨kK.1 0, kP.1 3⟩ | exact ⟨kK2.1 0, kP2.1 3⟩ | go_keep)
    (first | (go_at_call 11; refine (sep_decode H1.out ablkL A5 8 c5 0 rfl (by decide) (by decide) rfl _ _ askFL ask_heard).mono ?_; rintro e w2 ⟨D, n7, dc, rfl, rfl, h2⟩; have kK2 := h2.at_ (i := 3) rfl; have kP2 := h2.at_ (i := 7) rfl; have H2 := Lib.hid h2; unfold conV at kK2; unfold partV at kP2; clear h2))
  clear kK kP
  go_wp2_with fail
  refine (nc_stop0 H2.out (i := 3) (j := 4) rfl rfl).mono ?_
  rintro e w' ⟨rfl, rfl⟩
  go_wp2_with fail
  refine (sm_state0 H2.out (i := 5) rfl).mono ?_
  rintro e w' ⟨rfl, rfl⟩
  go_wp2_with fail
  refine (sm_open ((H2.out.front 6 rfl).front 6 rfl)).mono ?_
  rintro e w3 ⟨rfl, h3⟩
  clear kK2 kP2 H2 H1
  have kK := h3.at_ (i := 5) rfl
  have kP := h3.at_ (i := 7) rfl
  have H3 := Lib.hid h3
  unfold conV at kK
  unfold partV at kP
  clear h3
  go_wp2_with fail
  refine (st_hear_head w3).mono ?_
  rintro e w' ⟨rfl, rfl⟩
  go_wp2_with fail
  refine (nc_verdict (.inl ⟨rfl, rfl⟩) H3.out (i := 5) (i1 := 0) (j := 1) rfl rfl rfl).mono ?_
  rintro e w4 ⟨rfl, h4⟩
  have h5 := (h4.front 6 rfl).front 6 rfl
  clear kK kP H3 h4
  have H4 := Lib.hid h5
  clear h5
  go_wp2_with fail
  refine (nc_new H4.out).mono ?_
  rintro e w5 ⟨X, rfl, h5⟩
  have kP := h5.at_ (i := 8) rfl
  have H5 := Lib.hid (h5.front 1 rfl)
  unfold partV at kP
  clear h5 H4
  go_wp2_with fail
  refine (nc_event 1 1 0 D none 3 dc 0 0 false H5.out).mono ?_
  rintro e w6 ⟨rfl, E, ec, h6⟩
  have H6 := Lib.hid h6
  clear h6 H5 kP
  go_wp2
  refine bodyPost_end (results_none rfl _ _ _) rfl ?_
  exact ⟨rfl, X, D, dc, E, ec, (H6.out.drop_ 8).drop_ 8⟩
end Go.Proofs.YtbgnggkgmeagkaaGreatDoor
namespace Go.Proofs.YtbgnggkgmeagkaaGreatDoor
open Go.RowKit Go.Shelf
/-- Bytes that lie in a block of their own, to be read. -/
def bytA (ad : Addr) (l : List UInt8) : Atom := ⟨fun k => k = ad.block, fun w => Reads w w.heap.size 1 (some ad) l.length (bs l) ∧ ad.block < w.heap.size, fun S w w' hk hS hl h => ⟨by
  refine ⟨h.1.1, fun hn => ?_⟩
  obtain ⟨a, he, hb, hc⟩ := h.1.2 hn
  cases he
  refine ⟨ad, rfl, Nat.lt_of_lt_of_le hb hk.size, fun j u hj => ?_⟩
  have h1 := hc j u hj
  have h2 : (ad.add j).block = ad.block := block_of_add ad j
  exact (World.cell?_of_block (w := w) (by rw [h2]; exact hk.block ad.block hb (hS ad.block rfl))).trans h1, Nat.lt_of_lt_of_le h.2 hk.size⟩⟩
theorem Sep.byt {w : World} {L : List Atom} {i : Nat} {ad : Addr} {l : List UInt8} (h : Sep w L) (hi : L[i]? = some (bytA ad l)) : Reads w w.heap.size 1 (some ad) l.length (bs l) := (h.get hi).1
theorem Sep.newByt {w w' : World} {L : List Atom} {v : Value} {l : List UInt8} (h : Sep w L) (ha : AppStr w w' v l) : ∃ ad c, v = .slice (some ad) l.length c ∧ l.length ≤ c ∧ Sep w' (bytA ad l :: L) := by
  obtain ⟨ad, c, rfl, hc, h1, h2, h3, h4⟩ := ha
  exact ⟨ad, c, rfl, hc, h.new h4 ⟨h3, h2⟩ (by rintro k rfl; exact ⟨h1, h2⟩)⟩
def askTL : List UInt8 := askL [80, 79, 83, 84] [47, 112] [104] [] [120]
theorem askTL_ok : askE [80, 79, 83, 84] [47, 112] [104] [] 1 = 0 ∧ askTL.length = 39 := ⟨by kernel_rfl, by kernel_rfl⟩
theorem upd_job {w : World} {L : List Atom} {i M : Nat} {v : Value} (h : Sep w L) (hi : L[i]? = some (mapA M #[] 0)) : (Instr.mapUpdate 117 (.map (some M)) (.int .i64 1) v).run Tryz.prog w = .ok () (putM w M (ent1 v) 1) :=
  run_upd_new (P := Tryz.prog) (t := 117) (k := .int .i64 1) Tryz.underlying117 Tryz.underlying3 rfl (h.map_ hi) (by rfl) v
theorem look_gcall {w : World} {L : List Atom} {i M Y c : Nat} (h : Sep w L) (hi : L[i]? = some (mapA M (ent1 (.pointer (some ⟨Y, 0, none⟩))) c)) : (Instr.lookup 116 (.map (some M)) (.int .i64 1) false).run Tryz.prog w = .ok (.pointer (some ⟨Y, 0, none⟩)) w :=
  run_look (P := Tryz.prog) (t := 116) (k := .int .i64 1) Tryz.underlying116 Tryz.underlying3 rfl (h.map_ hi) (i := 0) (by rfl) false
theorem rt_rowg {w : World} {L : List Atom} {i c g : Nat} (h : Sep w L) (hi : L[i]? = some (rowA 47 3 (.slice (some ⟨g, 0, none⟩) 1 c) 1 rtV)) : RtAt w g := by
  obtain ⟨g', e, h1, -⟩ := rt_row h hi
  cases e
  exact h1
theorem eq_5nil (w : World) : (binOp .eql 28 (.iface 95 (.int .i64 5)) .nilIface).run Tryz.prog w = .ok (.bool false) w := by kernel_rfl
theorem fask_C {w : World} {LA : Option Addr} {ad : Addr} {c bc : Nat} (hr : Reads w w.heap.size 2 LA 3 (fvs askFL)) (hrb : Reads w w.heap.size 1 (some ad) 1 (bs [120])) :
    Calls Tryz.prog 12 #[.slice LA 3 c, .slice (some ad) 1 bc] w fun e w' => ∃ fa fc ba bc', e = .returned (.tuple #[.agg #[.string ⟨#[80, 79, 83, 84]⟩, .string ⟨#[47, 112]⟩, .string ⟨#[104]⟩, .slice fa 0 fc, .slice ba 1 bc'], .nilIface]) ∧ w'.ownsRow w.heap.size 5 1 (.slice ba 1 bc') 1 (bs [120]) ∧ Below w.heap.size w w' := by
  refine (fask_any [80, 79, 83, 84] [47, 112] [104] [] [120] (by decide) (by decide) (by decide) (fun f hf => by cases hf) (by decide) (by decide) (by decide) LA 3 c rfl (some ad) 1 bc rfl (fun e => by cases e) w hr hrb).mono ?_
  rintro e w' ⟨hb, hif⟩
  have h0 : askE [80, 79, 83, 84] [47, 112] [104] (accL ⟨[], none⟩ []).l [120].length = 0 := askTL_ok.1
  rw [if_neg (fun hh => hh.elim (fun h => by simp at h) (fun h => h h0))] at hif
  obtain ⟨fa, fc, ba, bc', rfl, -, h1⟩ := hif
  exact ⟨fa, fc, ba, bc', rfl, h1, hb⟩
/-- The request is put into the call. -/
theorem ask_kept {w : World} {r a b : Atom} {L : List Atom} {Y : Nat} {fl bd m p h0 f0 d0 : Value} {t : Int} (h : Sep w (r :: a :: b :: blkA Y 146 (gclV fl bd m p h0 f0 d0 t) :: L)) (m' p' h' f' d' : Value) :
    Hid (Sep (((((w.setCell ⟨Y, 3, none⟩ m').setCell ⟨Y, 4, none⟩ p').setCell ⟨Y, 5, none⟩ h').setCell ⟨Y, 6, none⟩ f').setCell ⟨Y, 7, none⟩ d') (r :: a :: b :: blkA Y 146 (gclV fl bd m' p' h' f' d' t) :: L)) ∧
    (((((w.setCell ⟨Y, 3, none⟩ m').setCell ⟨Y, 4, none⟩ p').setCell ⟨Y, 5, none⟩ h').setCell ⟨Y, 6, none⟩ f').setCell ⟨Y, 7, none⟩ d').cell? ⟨Y, 0, none⟩ = some fl ∧
    (((((w.setCell ⟨Y, 3, none⟩ m').setCell ⟨Y, 4, none⟩ p').setCell ⟨Y, 5, none⟩ h').setCell ⟨Y, 6, none⟩ f').setCell ⟨Y, 7, none⟩ d').cell? ⟨Y, 1, none⟩ = some bd := by
  have h3 : Sep _ (r :: a :: b :: blkA Y 146 (gclV fl bd m' p' h' f' d' t) :: L) := ((((h.set_ (i := 3) rfl 3 m').set_ (i := 3) rfl 4 p').set_ (i := 3) rfl 5 h').set_ (i := 3) rfl 6 f').set_ (i := 3) rfl 7 d'
  have k := h3.at_ (i := 3) rfl
  exact ⟨Lib.hid h3, k.1 0, k.1 1⟩
set_option maxRecDepth 100000 in
set_option maxHeartbeats 8000000 in
theorem ga_whole {w w0 : World} {F : List Atom} {io g kb Li LM LM' St CM JM Y fc dc rc cm : Nat} {FA D RA : Option Addr} {log : Value} (hP : Pow w0) (hio : F[io]? = some (oldA w0))
    (h : Sep w (blkA g 120 (gatV kb (.slice RA 1 rc) Li St CM JM 0 log) :: mapA CM (ent1 (.pointer (some ⟨Y, 0, none⟩))) cm :: blkA Y 146 (gclE (.slice FA 3 fc) (.slice D 1 dc)) :: rowA 41 2 (.slice FA 3 fc) 3 (fvs askFL) :: rowA 5 1 (.slice D 1 dc) 1 (bs [120]) ::
      blkA Li 193 #[.int .i64 10, .int .i64 10, .map (some LM), .map (some LM')] :: mapA LM' #[] 0 :: mapA LM #[] 0 :: blkA St 203 #[.slice none 0 0] :: rowA 47 3 (.slice RA 1 rc) 1 rtV :: mapA JM #[] 0 :: F)) :
    Calls Tryz.prog 167 #[.pointer (some ⟨g, 0, none⟩), .int .i64 1] w fun e w' => e = .returned (.tuple #[]) ∧ ∃ fa fc' ba bc' ad jc, Sep w' (blkA g 120 (gatV kb (.slice RA 1 rc) Li St CM JM 1 log) :: mapA CM (ent1 (.pointer (some ⟨Y, 0, none⟩))) cm ::
      blkA Y 146 (gclV (.slice FA 3 fc) (.slice D 1 dc) (.string ⟨#[80, 79, 83, 84]⟩) (.string ⟨#[47, 112]⟩) (.string ⟨#[104]⟩) (.slice fa 0 fc') (.slice ba 1 bc') 0) :: mapA JM (ent1 (.agg #[.int .i64 1, .string ⟨#[97, 108, 108]⟩, .slice (some ad) 39 jc])) 1 :: bytA ad askTL :: F) := by
  obtain ⟨dg, rfl, -⟩ := h.rowAt (i := 4) rfl (by decide)
  obtain ⟨rg, rfl, hrt, hrc⟩ := rt_row h (i := 9) rfl
  have kG := h.at_ (i := 0) rfl
  have kY := h.at_ (i := 2) rfl
  have ql := look_gcall h (i := 1) rfl
  have n1 := h.ne_ (i := 0) (i' := 2) rfl rfl (by decide)
  have n2 := Ne.symm n1
  have H := Lib.hid h
  unfold gatV at kG
  unfold gclE gclV at kY
  clear h hrt
  go_enter Tryz.func167, Tryz.ntmps167
  go_wp2_with fail
  obtain ⟨w1, hw1⟩ : ∃ w1, w.setCell ⟨Y, 8, none⟩ (.int .i64 0) = w1 := ⟨_, rfl⟩
  have h1 := H.out.set_ (i := 2) rfl 8 (.int .i64 0)
  rw [hw1] at h1 ⊢
  change Sep w1 (_ :: _ :: blkA Y _ (gclE (.slice FA 3 fc) (.slice (some ⟨dg, 0, none⟩) 1 dc)) :: _) at h1
  clear kG kY ql n1 n2 H hw1
  have kG := h1.at_ (i := 0) rfl
  have kY := h1.at_ (i := 2) rfl
  have HF := Lib.hid (Reads.of_own (h1.drew.row (i := 3) rfl))
  have HD := Lib.hid (reads_sep h1.drew (i := 4) rfl)
  have H1 := Lib.hid h1.drew
  unfold gatV at kG
  unfold gclE gclV at kY
  clear h1
  go_wp2_with fail
  have f0 : w1.cell? ⟨Y, 0, none⟩ = some (.slice FA 3 fc) := kY.1 0
  have f1 : w1.cell? ⟨Y, 1, none⟩ = some (.slice (some ⟨dg, 0, none⟩) 1 dc) := kY.1 1
  go_region_held3 (fun w' => w'.cell? ⟨Y, 0, none⟩ = some (.slice FA 3 fc) ∧ w'.cell? ⟨Y, 1, none⟩ = some (.slice (some ⟨dg, 0, none⟩) 1 dc)) (first | (with_reducible exact ⟨f0, f1⟩) | (with_reducible exact ⟨g0, g1⟩) | (with_reducible exact ⟨k0, k1⟩) | go_keep)
    (first | (go_at_call 12; refine (fask_C HF.out HD.out).mono ?_; rintro e w2 ⟨fa, fc2, ba, bc2, rfl, hown2, hb2⟩; have h2 := H1.out.newRow hb2 hown2; have kY2 := h2.at_ (i := 3) rfl; have g0 : w2.cell? ⟨Y, 0, none⟩ = some (.slice FA 3 fc) := kY2.1 0; have g1 : w2.cell? ⟨Y, 1, none⟩ = some (.slice (some ⟨dg, 0, none⟩) 1 dc) := kY2.1 1; obtain ⟨H3, k0, k1⟩ := ask_kept h2 (.string ⟨#[80, 79, 83, 84]⟩) (.string ⟨#[47, 112]⟩) (.string ⟨#[104]⟩) (.slice fa 0 fc2) (.slice ba 1 bc2); unfold gclE gclV at kY2; clear h2 hown2 hb2))
  obtain ⟨w3, hw3⟩ : ∃ w3, (((((w2.setCell ⟨Y, 3, none⟩ (.string ⟨#[80, 79, 83, 84]⟩)).setCell ⟨Y, 4, none⟩ (.string ⟨#[47, 112]⟩)).setCell ⟨Y, 5, none⟩ (.string ⟨#[104]⟩)).setCell ⟨Y, 6, none⟩ (.slice fa 0 fc2)).setCell ⟨Y, 7, none⟩ (.slice ba 1 bc2)) = w3 := ⟨_, rfl⟩
  have h3 := H3.out
  rw [hw3] at h3 ⊢
  clear kG kY f0 f1 g0 g1 k0 k1 kY2 HF HD H1 H3 hw3
  have kG := h3.at_ (i := 1) rfl
  have kY := h3.at_ (i := 3) rfl
  have H3 := Lib.hid (((h3.drew.front 8 rfl).front 8 rfl).front 8 rfl)
  have p0 : w3.cell? ⟨g, 2, none⟩ = some (.pointer (some ⟨Li, 0, none⟩)) := kG.1 2
  have p1 : w3.cell? ⟨Y, 5, none⟩ = some (.string ⟨#[104]⟩) := kY.1 5
  have p2 : w3.cell? ⟨g, 7, none⟩ = some (.int .i64 0) := kG.1 7
  have pl := h3.at_ (i := 1) rfl |>.2.2
  have pl2 := h3.at_ (i := 3) rfl |>.2.2
  clear kG kY h3
  go_wp2
  go_region_held3 (fun w' => w'.cell? ⟨g, 2, none⟩ = some (.pointer (some ⟨Li, 0, none⟩)) ∧ w'.cell? ⟨Y, 5, none⟩ = some (.string ⟨#[104]⟩) ∧ w'.cell? ⟨g, 7, none⟩ = some (.int .i64 0)) (first | (with_reducible exact ⟨p0, p1, p2⟩) | (with_reducible exact ⟨s0, s1, s2⟩) | go_keep)
    (first | (go_at_call 231; refine (li_ask H3.out).mono ?_; rintro e w4 ⟨rfl, h4⟩; have kG4 := h4.at_ (i := 1) rfl; have kY4 := h4.at_ (i := 3) rfl; have s0 : w4.cell? ⟨g, 2, none⟩ = some (.pointer (some ⟨Li, 0, none⟩)) := kG4.1 2; have s1 : w4.cell? ⟨Y, 5, none⟩ = some (.string ⟨#[104]⟩) := kY4.1 5; have s2 : w4.cell? ⟨g, 7, none⟩ = some (.int .i64 0) := kG4.1 7; have s3 : w4.cell? ⟨g, 1, none⟩ = some (.slice (some ⟨rg, 0, none⟩) 1 rc) := kG4.1 1; have s4 : w4.cell? ⟨Y, 4, none⟩ = some (.string ⟨#[47, 112]⟩) := kY4.1 4; have HT := Lib.hid (rt_rowg h4.drew (i := 7) rfl); have H4 := Lib.hid h4.drew; have l4 := kG4.2.2; have l5 := kY4.2.2; clear h4 kG4 kY4))
  clear p0 p1 p2 pl pl2 H3 s0 s2
  go_wp2
  go_region_held3 (fun w' => w'.cell? ⟨g, 1, none⟩ = some (.slice (some ⟨rg, 0, none⟩) 1 rc) ∧ w'.cell? ⟨Y, 5, none⟩ = some (.string ⟨#[104]⟩) ∧ w'.cell? ⟨Y, 4, none⟩ = some (.string ⟨#[47, 112]⟩)) (first | (with_reducible exact ⟨s3, s1, s4⟩) | (with_reducible exact ⟨t3, t1, t4⟩) | go_keep)
    (first | (go_at_call 232; refine (rt_rest rg rc hrc _ HT.out).mono ?_; rintro e w5 ⟨rfl, hb5⟩; have h5 := H4.out.below hb5; have kG5 := h5.at_ (i := 1) rfl; have kY5 := h5.at_ (i := 3) rfl; have t3 : w5.cell? ⟨g, 1, none⟩ = some (.slice (some ⟨rg, 0, none⟩) 1 rc) := kG5.1 1; have t1 : w5.cell? ⟨Y, 5, none⟩ = some (.string ⟨#[104]⟩) := kY5.1 5; have t4 : w5.cell? ⟨Y, 4, none⟩ = some (.string ⟨#[47, 112]⟩) := kY5.1 4; have H5 := Lib.hid h5; have l6 := kG5.2.2; have l7 := kY5.2.2; clear h5 kG5 kY5 hb5))
  clear s1 s3 s4 l4 l5 t1 t3 t4 HT H4
  have kG := H5.out.at_ (i := 1) rfl
  have kY := H5.out.at_ (i := 3) rfl
  have u0 : w5.cell? ⟨g, 3, none⟩ = some (.pointer (some ⟨St, 0, none⟩)) := kG.1 3
  have u1 : w5.cell? ⟨Y, 3, none⟩ = some (.string ⟨#[80, 79, 83, 84]⟩) := kY.1 3
  have u2 : w5.cell? ⟨Y, 4, none⟩ = some (.string ⟨#[47, 112]⟩) := kY.1 4
  have u3 : w5.cell? ⟨Y, 5, none⟩ = some (.string ⟨#[104]⟩) := kY.1 5
  have u4 : w5.cell? ⟨Y, 6, none⟩ = some (.slice fa 0 fc2) := kY.1 6
  have u5 : w5.cell? ⟨Y, 7, none⟩ = some (.slice ba 1 bc2) := kY.1 7
  have u6 : w5.cell? ⟨g, 7, none⟩ = some (.int .i64 0) := kG.1 7
  have h5 := H5.out.newBlk 69 #[.int .i64 0, .slice none 0 0, .slice none 0 0]
  have kG5 := h5.at_ (i := 2) rfl
  have kY5 := h5.at_ (i := 4) rfl
  have x0 : (w5.alloc (.cells #[.int .i64 0, .slice none 0 0, .slice none 0 0] 69)).cell? ⟨g, 3, none⟩ = some (.pointer (some ⟨St, 0, none⟩)) := kG5.1 3
  have x1 : (w5.alloc (.cells #[.int .i64 0, .slice none 0 0, .slice none 0 0] 69)).cell? ⟨Y, 3, none⟩ = some (.string ⟨#[80, 79, 83, 84]⟩) := kY5.1 3
  have x2 : (w5.alloc (.cells #[.int .i64 0, .slice none 0 0, .slice none 0 0] 69)).cell? ⟨Y, 4, none⟩ = some (.string ⟨#[47, 112]⟩) := kY5.1 4
  have x3 : (w5.alloc (.cells #[.int .i64 0, .slice none 0 0, .slice none 0 0] 69)).cell? ⟨Y, 5, none⟩ = some (.string ⟨#[104]⟩) := kY5.1 5
  have x4 : (w5.alloc (.cells #[.int .i64 0, .slice none 0 0, .slice none 0 0] 69)).cell? ⟨Y, 6, none⟩ = some (.slice fa 0 fc2) := kY5.1 6
  have x5 : (w5.alloc (.cells #[.int .i64 0, .slice none 0 0, .slice none 0 0] 69)).cell? ⟨Y, 7, none⟩ = some (.slice ba 1 bc2) := kY5.1 7
  have x6 : (w5.alloc (.cells #[.int .i64 0, .slice none 0 0, .slice none 0 0] 69)).cell? ⟨g, 7, none⟩ = some (.int .i64 0) := kG5.1 7
  have H6 := Lib.hid (h5.drew.front 7 rfl)
  have H6A := Lib.hid (H5.out.drew.front 6 rfl)
  clear kG kY H5 h5 kG5 kY5
  go_wp2
  go_region_held3 (fun w' => w'.cell? ⟨g, 3, none⟩ = some (.pointer (some ⟨St, 0, none⟩)) ∧ w'.cell? ⟨Y, 3, none⟩ = some (.string ⟨#[80, 79, 83, 84]⟩) ∧ w'.cell? ⟨Y, 4, none⟩ = some (.string ⟨#[47, 112]⟩) ∧ w'.cell? ⟨Y, 5, none⟩ = some (.string ⟨#[104]⟩) ∧ w'.cell? ⟨Y, 6, none⟩ = some (.slice fa 0 fc2) ∧ w'.cell? ⟨Y, 7, none⟩ = some (.slice ba 1 bc2) ∧ w'.cell? ⟨g, 7, none⟩ = some (.int .i64 0)) (first | (with_reducible exact ⟨u0, u1, u2, u3, u4, u5, u6⟩) | (with_reducible exact ⟨x0, x1, x2, x3, x4, x5, x6⟩) | (with_reducible exact ⟨v0, v1, v2, v3, v4, v5, v6⟩) | (with_reducible exact ⟨z0, z1, z2, z3, z4, z5, z6⟩) | (with_reducible exact ⟨y0, y1, y2, y3, y4, y5, y6⟩) | go_keep)
    (first
    | (go_at_call 233; refine (sto_get H6A.out).mono ?_; rintro e w6 ⟨rfl, h6⟩; have kG6 := h6.at_ (i := 1) rfl; have kY6 := h6.at_ (i := 3) rfl; have v0 : w6.cell? ⟨g, 3, none⟩ = some (.pointer (some ⟨St, 0, none⟩)) := kG6.1 3; have v1 : w6.cell? ⟨Y, 3, none⟩ = some (.string ⟨#[80, 79, 83, 84]⟩) := kY6.1 3; have v2 : w6.cell? ⟨Y, 4, none⟩ = some (.string ⟨#[47, 112]⟩) := kY6.1 4; have v3 : w6.cell? ⟨Y, 5, none⟩ = some (.string ⟨#[104]⟩) := kY6.1 5; have v4 : w6.cell? ⟨Y, 6, none⟩ = some (.slice fa 0 fc2) := kY6.1 6; have v5 : w6.cell? ⟨Y, 7, none⟩ = some (.slice ba 1 bc2) := kY6.1 7; have v6 : w6.cell? ⟨g, 7, none⟩ = some (.int .i64 0) := kG6.1 7; have h8 := h6.newBlk 69 #[.int .i64 0, .slice none 0 0, .slice none 0 0]; have kR8 := h8.at_ (i := 0) rfl; have kG8 := h8.at_ (i := 2) rfl; have kY8 := h8.at_ (i := 4) rfl; have z0 : (w6.alloc (.cells #[.int .i64 0, .slice none 0 0, .slice none 0 0] 69)).cell? ⟨g, 3, none⟩ = some (.pointer (some ⟨St, 0, none⟩)) := kG8.1 3; have z1 : (w6.alloc (.cells #[.int .i64 0, .slice none 0 0, .slice none 0 0] 69)).cell? ⟨Y, 3, none⟩ = some (.string ⟨#[80, 79, 83, 84]⟩) := kY8.1 3; have z2 : (w6.alloc (.cells #[.int .i64 0, .slice none 0 0, .slice none 0 0] 69)).cell? ⟨Y, 4, none⟩ = some (.string ⟨#[47, 112]⟩) := kY8.1 4; have z3 : (w6.alloc (.cells #[.int .i64 0, .slice none 0 0, .slice none 0 0] 69)).cell? ⟨Y, 5, none⟩ = some (.string ⟨#[104]⟩) := kY8.1 5; have z4 : (w6.alloc (.cells #[.int .i64 0, .slice none 0 0, .slice none 0 0] 69)).cell? ⟨Y, 6, none⟩ = some (.slice fa 0 fc2) := kY8.1 6; have z5 : (w6.alloc (.cells #[.int .i64 0, .slice none 0 0, .slice none 0 0] 69)).cell? ⟨Y, 7, none⟩ = some (.slice ba 1 bc2) := kY8.1 7; have z6 : (w6.alloc (.cells #[.int .i64 0, .slice none 0 0, .slice none 0 0] 69)).cell? ⟨g, 7, none⟩ = some (.int .i64 0) := kG8.1 7; have H7 := Lib.hid h8; have l8 := kG6.2.2; have l9 := kY6.2.2; clear h6 h8 kG6 kY6 kG8 kY8)
    | (go_at_call 233; refine (sto_get H6.out).mono ?_; rintro e w6 ⟨rfl, h6⟩; have kR6 := h6.at_ (i := 0) rfl; have kG6 := h6.at_ (i := 2) rfl; have kY6 := h6.at_ (i := 4) rfl; have v0 : w6.cell? ⟨g, 3, none⟩ = some (.pointer (some ⟨St, 0, none⟩)) := kG6.1 3; have v1 : w6.cell? ⟨Y, 3, none⟩ = some (.string ⟨#[80, 79, 83, 84]⟩) := kY6.1 3; have v2 : w6.cell? ⟨Y, 4, none⟩ = some (.string ⟨#[47, 112]⟩) := kY6.1 4; have v3 : w6.cell? ⟨Y, 5, none⟩ = some (.string ⟨#[104]⟩) := kY6.1 5; have v4 : w6.cell? ⟨Y, 6, none⟩ = some (.slice fa 0 fc2) := kY6.1 6; have v5 : w6.cell? ⟨Y, 7, none⟩ = some (.slice ba 1 bc2) := kY6.1 7; have v6 : w6.cell? ⟨g, 7, none⟩ = some (.int .i64 0) := kG6.1 7; have h8 := ((h6.set_ (i := 0) rfl 0 (.int .i64 0)).set_ (i := 0) rfl 1 (.slice none 0 0)).set_ (i := 0) rfl 2 (.slice none 0 0); have kG8 := h8.at_ (i := 2) rfl; have kY8 := h8.at_ (i := 4) rfl; have y0 : (((w6.setCell ⟨w5.heap.size, 0, none⟩ (.int .i64 0)).setCell ⟨w5.heap.size, 1, none⟩ (.slice none 0 0)).setCell ⟨w5.heap.size, 2, none⟩ (.slice none 0 0)).cell? ⟨g, 3, none⟩ = some (.pointer (some ⟨St, 0, none⟩)) := kG8.1 3; have y1 : (((w6.setCell ⟨w5.heap.size, 0, none⟩ (.int .i64 0)).setCell ⟨w5.heap.size, 1, none⟩ (.slice none 0 0)).setCell ⟨w5.heap.size, 2, none⟩ (.slice none 0 0)).cell? ⟨Y, 3, none⟩ = some (.string ⟨#[80, 79, 83, 84]⟩) := kY8.1 3; have y2 : (((w6.setCell ⟨w5.heap.size, 0, none⟩ (.int .i64 0)).setCell ⟨w5.heap.size, 1, none⟩ (.slice none 0 0)).setCell ⟨w5.heap.size, 2, none⟩ (.slice none 0 0)).cell? ⟨Y, 4, none⟩ = some (.string ⟨#[47, 112]⟩) := kY8.1 4; have y3 : (((w6.setCell ⟨w5.heap.size, 0, none⟩ (.int .i64 0)).setCell ⟨w5.heap.size, 1, none⟩ (.slice none 0 0)).setCell ⟨w5.heap.size, 2, none⟩ (.slice none 0 0)).cell? ⟨Y, 5, none⟩ = some (.string ⟨#[104]⟩) := kY8.1 5; have y4 : (((w6.setCell ⟨w5.heap.size, 0, none⟩ (.int .i64 0)).setCell ⟨w5.heap.size, 1, none⟩ (.slice none 0 0)).setCell ⟨w5.heap.size, 2, none⟩ (.slice none 0 0)).cell? ⟨Y, 6, none⟩ = some (.slice fa 0 fc2) := kY8.1 6; have y5 : (((w6.setCell ⟨w5.heap.size, 0, none⟩ (.int .i64 0)).setCell ⟨w5.heap.size, 1, none⟩ (.slice none 0 0)).setCell ⟨w5.heap.size, 2, none⟩ (.slice none 0 0)).cell? ⟨Y, 7, none⟩ = some (.slice ba 1 bc2) := kY8.1 7; have y6 : (((w6.setCell ⟨w5.heap.size, 0, none⟩ (.int .i64 0)).setCell ⟨w5.heap.size, 1, none⟩ (.slice none 0 0)).setCell ⟨w5.heap.size, 2, none⟩ (.slice none 0 0)).cell? ⟨g, 7, none⟩ = some (.int .i64 0) := kG8.1 7; have H7 := Lib.hid h8; have l8 := kG6.2.2; have l9 := kY6.2.2; clear h6 h8 kG6 kY6 kG8 kY8))
  all_goals
    have h7 := H7.out
    first
      | (obtain ⟨w7, hw7⟩ : ∃ w7, w6.alloc (.cells #[.int .i64 0, .slice none 0 0, .slice none 0 0] 69) = w7 := ⟨_, rfl⟩; rw [hw7] at h7 ⊢)
      | (obtain ⟨w7, hw7⟩ : ∃ w7, ((w6.setCell ⟨w5.heap.size, 0, none⟩ (.int .i64 0)).setCell ⟨w5.heap.size, 1, none⟩ (.slice none 0 0)).setCell ⟨w5.heap.size, 2, none⟩ (.slice none 0 0) = w7 := ⟨_, rfl⟩; rw [hw7] at h7 ⊢)
    clear u0 u1 u2 u3 u4 u5 u6 x0 x1 x2 x3 x4 x5 x6 v0 v1 v2 v3 v4 v5 v6 l6 l7 l8 l9 H6 H6A H7
    try clear z0 z1 z2 z3 z4 z5 z6
    try clear y0 y1 y2 y3 y4 y5 y6
    try clear kR6
    try clear kR8
    clear hw7
    have kG := h7.at_ (i := 2) rfl
    have kY := h7.at_ (i := 4) rfl
    have H7 := Lib.hid h7
    have qe := eq_5nil
    unfold gatV at kG
    unfold gclV at kY
    clear h7
    go_wp2_with fail
    have h8 := H7.out.newBlk 25 #[.string ⟨#[80, 79, 83, 84]⟩, .string ⟨#[47, 112]⟩, .string ⟨#[104]⟩, .slice fa 0 fc2, .slice ba 1 bc2]
    have hP8 := hP.next (h8.old (i := io + 10) hio)
    have HR := Lib.hid (reads_sep h8 (i := 2) rfl)
    have H8 := Lib.hid h8
    clear h8 kG kY H7
    refine (lask_ok [80, 79, 83, 84] [47, 112] [104] [] [120] askTL_ok.1 fa 0 fc2 rfl ba 1 bc2 rfl _ hP8 ⟨rfl, fun h => by cases h⟩ HR.out).mono ?_
    rintro e w9 ⟨v, rfl, ha⟩
    obtain ⟨ad, jc, rfl, hjc, h9⟩ := H8.out.newByt ha
    change Sep w9 (bytA ad askTL :: _) at h9
    have e39 : (askL [80, 79, 83, 84] [47, 112] [104] [] [120]).length = 39 := askTL_ok.2
    rw [e39]
    clear ha hP8 HR H8 hjc e39
    have kG := h9.at_ (i := 4) rfl
    have H9 := Lib.hid h9
    unfold gatV at kG
    clear h9
    go_wp2
    obtain ⟨w10, hw10⟩ : ∃ w10, w9.setCell ⟨g, 6, none⟩ (.int .i64 1) = w10 := ⟨_, rfl⟩
    have h10 := H9.out.set_ (i := 4) rfl 6 (.int .i64 1)
    rw [hw10] at h10 ⊢
    change Sep w10 (_ :: _ :: _ :: _ :: blkA g _ (gatV kb (.slice (some ⟨rg, 0, none⟩) 1 rc) Li St CM JM 1 log) :: _) at h10
    clear kG H9 hw10
    have kG := h10.at_ (i := 4) rfl
    have qm := upd_job (v := (.agg #[.int .i64 1, .string ⟨#[97, 108, 108]⟩, .slice (some ad) 39 jc])) h10.drew (i := 10) rfl
    have h11 := h10.drew.putMap (i := 10) (c' := 1) (es' := ent1 (.agg #[.int .i64 1, .string ⟨#[97, 108, 108]⟩, .slice (some ad) 39 jc])) rfl
    have H11 := Lib.hid (((((((((h11.drop_ 1).drop_ 1).drop_ 1).drop_ 4).drop_ 4).drop_ 4).front 4 rfl).front 4 rfl).front 4 rfl)
    unfold gatV at kG
    clear h10 h11
    go_region
    go_wp2
    refine bodyPost_end (results_none rfl _ _ _) rfl ?_
    exact ⟨rfl, fa, fc2, ba, bc2, ad, jc, H11.out.front 4 rfl⟩
end Go.Proofs.YtbgnggkgmeagkaaGreatDoor
namespace Go.Proofs.YtbgnggkgmeagkaaGreatDoor
open Go.RowKit
set_option maxRecDepth 100000 in
set_option maxHeartbeats 2000000 in
theorem cn_grant {w : World} {L : List Atom} {i kb C S M : Nat} {ord inn out part evs : Value} {ow un : Int} {began : Bool} (id : Int) (h : Sep w L) (hi : L[i]? = some (blkA kb 200 (conV C S M ord inn out 1999 ow un began part evs))) :
    Calls Tryz.prog 229 #[.pointer (some ⟨kb, 0, none⟩), .int .i64 id, .pointer (some ⟨kb, 6, none⟩), .int .i64 0] w fun e w' => e = .returned (.tuple #[]) ∧ w = w' := by
  have kK := h.at_ hi
  unfold conV at kK
  clear h hi
  go_enter Tryz.func229, Tryz.ntmps229
  go_wp2_with fail
  refine (fl_left ⟨kb, 6, none⟩ 1999 w (kK.1 6)).mono ?_
  rintro e w' ⟨rfl, rfl⟩
  go_wp2_with fail
  refine (fl_due 1999 (by decide) (by decide) _).mono ?_
  rintro e w' ⟨rfl, rfl⟩
  go_wp2
  refine bodyPost_end (results_none rfl _ _ _) rfl ?_
  exact ⟨rfl, rfl⟩
set_option maxRecDepth 100000 in
set_option maxHeartbeats 4000000 in
theorem cn_used1 {w : World} {F : List Atom} {kb C S M MS X mc sc : Nat} {ord inn out part evs q : Value} {ow co : Int} {began wt en : Bool}
    (h : Sep w (blkA kb 200 (conV C S M ord inn out 1999 ow 1 began part evs) :: mapA M (ent1 (.pointer (some ⟨X, 0, none⟩))) mc :: blkA X 313 (chnV 1999 co 1 q wt en) :: blkA S 254 (stmV MS 1) :: mapA MS (ent1 (.int .i64 2)) sc :: F)) :
    Calls Tryz.prog 166 #[.pointer (some ⟨kb, 0, none⟩), .int .i64 1, .int .i64 1] w fun e w' => e = .returned .nilIface ∧ Sep w' (blkA kb 200 (conV C S M ord inn out 1999 ow 0 began part evs) :: mapA M (ent1 (.pointer (some ⟨X, 0, none⟩))) mc :: blkA X 313 (chnV 1999 co 0 q wt en) :: blkA S 254 (stmV MS 1) :: mapA MS (ent1 (.int .i64 2)) sc :: F) := by
  have kK := h.at_ (i := 0) rfl
  have kC := h.at_ (i := 2) rfl
  have ql := run_look (P := Tryz.prog) (t := 196) (k := .int .i64 1) Tryz.underlying196 Tryz.underlying3 rfl (h.map_ (i := 1) rfl) (i := 0) (by rfl) false
  have H := Lib.hid h
  unfold conV at kK
  unfold chnV at kC
  clear h
  go_enter Tryz.func166, Tryz.ntmps166
  go_wp2_with fail
  obtain ⟨w1, hw1⟩ : ∃ w1, w.setCell ⟨kb, 9, none⟩ (.int .i64 0) = w1 := ⟨_, rfl⟩
  have h1 := H.out.set_ (i := 0) rfl 9 (.int .i64 0)
  rw [hw1] at h1 ⊢
  change Sep w1 (blkA kb _ (conV C S M ord inn out 1999 ow 0 began part evs) :: _) at h1
  clear kK kC ql H hw1
  have kK := h1.at_ (i := 0) rfl
  have kC := h1.at_ (i := 2) rfl
  have H1 := Lib.hid h1
  unfold conV at kK
  unfold chnV at kC
  clear h1
  go_quiet (first | (go_at_call 229; refine Calls.quiet_of_same ((cn_grant 0 (H1.out.drewN _) (i := 0) rfl).mono fun e w' h => ⟨h.1, h.2.symm⟩)))
  obtain ⟨w2, hw2⟩ : ∃ w2, w1.drewN nq = w2 := ⟨_, rfl⟩
  have h2 := H1.out.drewN nq
  rw [hw2] at h2 ⊢
  clear kK kC H1 hw2
  have kK := h2.at_ (i := 0) rfl
  have kC := h2.at_ (i := 2) rfl
  have H2 := Lib.hid h2
  unfold conV at kK
  unfold chnV at kC
  clear h2
  have n1 := H2.out.ne_ (i := 0) (i' := 2) rfl rfl (by decide)
  have n2 := Ne.symm n1
  go_wp2_with fail
  obtain ⟨w3, hw3⟩ : ∃ w3, w2.setCell ⟨X, 2, none⟩ (.int .i64 0) = w3 := ⟨_, rfl⟩
  have h3 := H2.out.set_ (i := 2) rfl 2 (.int .i64 0)
  rw [hw3] at h3 ⊢
  change Sep w3 (_ :: _ :: blkA X _ (chnV 1999 co 0 q wt en) :: _) at h3
  have H3 := Lib.hid h3
  clear kK kC n1 n2 H2 hw3 h3
  refine (sm_state1 H3.out (i := 3) (j := 4) rfl rfl).mono ?_
  rintro e w' ⟨rfl, rfl⟩
  go_wp2
  go_ret
  exact ⟨rfl, H3.out⟩
end Go.Proofs.YtbgnggkgmeagkaaGreatDoor
namespace Go.Proofs.YtbgnggkgmeagkaaGreatDoor
open Go.RowKit Go.Shelf
set_option maxRecDepth 100000 in
set_option maxHeartbeats 8000000 in
theorem ge_came {w w0 : World} {F : List Atom} {io g kb C S M MS X Li LM LM' St CM JM Y fc bc rc cm mc sc : Nat} {FA BA RA : Option Addr} {log ord inn out part evs q : Value} {ow co : Int} {began wt en : Bool} (hP : Pow w0) (hio : F[io]? = some (oldA w0))
    (h : Sep w (blkA g 120 (gatV kb (.slice RA 1 rc) Li St CM JM 0 log) :: mapA CM (ent1 (.pointer (some ⟨Y, 0, none⟩))) cm :: blkA Y 146 (gclE (.slice FA 3 fc) (.slice none 0 0)) :: rowA 41 2 (.slice FA 3 fc) 3 (fvs askFL) ::
      blkA Li 193 #[.int .i64 10, .int .i64 10, .map (some LM), .map (some LM')] :: mapA LM' #[] 0 :: mapA LM #[] 0 :: blkA St 203 #[.slice none 0 0] :: rowA 47 3 (.slice RA 1 rc) 1 rtV :: mapA JM #[] 0 ::
      blkA kb 200 (conV C S M ord inn out 1999 ow 1 began part evs) :: mapA M (ent1 (.pointer (some ⟨X, 0, none⟩))) mc :: blkA X 313 (chnV 1999 co 1 q wt en) :: blkA S 254 (stmV MS 1) :: mapA MS (ent1 (.int .i64 2)) sc :: rowA 5 1 (.slice BA 1 bc) 1 (bs [120]) :: F)) :
    Calls Tryz.prog 112 #[.pointer (some ⟨g, 0, none⟩), .agg (evV 2 1 0 (.slice none 0 0) (.slice BA 1 bc) true)] w fun e w' => e = .returned (.tuple #[]) ∧ ∃ fa fc' ba bc' ad jc D dc, Sep w' (blkA g 120 (gatV kb (.slice RA 1 rc) Li St CM JM 1 log) :: mapA CM (ent1 (.pointer (some ⟨Y, 0, none⟩))) cm ::
      blkA Y 146 (gclV (.slice FA 3 fc) (.slice D 1 dc) (.string ⟨#[80, 79, 83, 84]⟩) (.string ⟨#[47, 112]⟩) (.string ⟨#[104]⟩) (.slice fa 0 fc') (.slice ba 1 bc') 0) :: mapA JM (ent1 (.agg #[.int .i64 1, .string ⟨#[97, 108, 108]⟩, .slice (some ad) 39 jc])) 1 :: bytA ad askTL ::
      blkA kb 200 (conV C S M ord inn out 1999 ow 0 began part evs) :: mapA M (ent1 (.pointer (some ⟨X, 0, none⟩))) mc :: blkA X 313 (chnV 1999 co 0 q wt en) :: blkA S 254 (stmV MS 1) :: mapA MS (ent1 (.int .i64 2)) sc :: F) := by
  have h1 := h.newBlk 215 (evV 2 1 0 (.slice none 0 0) (.slice BA 1 bc) true)
  unfold evV at h1
  have kX := h1.at_ (i := 0) rfl
  have kG := h1.at_ (i := 1) rfl
  have ql := look_gcall h1.drew (i := 2) rfl
  have H1 := Lib.hid h1
  unfold gatV at kG
  clear h h1
  unfold evV
  go_enter Tryz.func112, Tryz.ntmps112
  go_wp2
  go_region
  obtain ⟨w2, hw2⟩ : ∃ w2, (w.alloc (.cells #[.int .i64 2, .int .i64 1, .int .i64 0, .slice none 0 0, .slice BA 1 bc, .bool true] 215)).drew = w2 := ⟨_, rfl⟩
  have h2 := H1.out.drew
  rw [hw2] at h2 ⊢
  clear kX kG ql H1 hw2
  have kX := h2.at_ (i := 0) rfl
  have kY := h2.at_ (i := 3) rfl
  have H2 := Lib.hid h2
  unfold gclE gclV at kY
  clear h2
  go_wp2
  go_quiet (fail)
  obtain ⟨w3, hw3⟩ : ∃ w3, w2.drewN nq = w3 := ⟨_, rfl⟩
  have h3 := (H2.out.drewN nq)
  rw [hw3] at h3 ⊢
  have h4 := h3.nilRow 5 1
  clear kX kY H2 hw3 h3
  have kX := h4.at_ (i := 1) rfl
  have kY := h4.at_ (i := 4) rfl
  have n1 := h4.ne_ (i := 1) (i' := 4) rfl rfl (by decide)
  have n2 := Ne.symm n1
  have HR := Lib.hid (reads_sep h4.drew (i := 17) rfl)
  have H4 := Lib.hid h4.drew
  unfold gclE gclV at kY
  clear h4
  go_wp2
  go_region_law (refine step_joinA rfl _ _ 23 5 rfl Tryz.underlying23 u8_info rfl (by decide) (by decide) _ 0 [] H4.out (i := 0) rfl (by simp [Act.eval, Act.put]) BA 1 bc (bs [120]) HR.out (bs_ones _) (by simp [Act.eval, Act.put]) (by decide) ?_; intro D dc w5 h5 _; have kX5 := h5.at_ (i := 1) rfl; have kY5 := h5.at_ (i := 4) rfl; have H5 := Lib.hid h5; unfold gclE gclV at kY5; clear h5)
  all_goals
    obtain ⟨w6, hw6⟩ : ∃ w6, w5.setCell ⟨Y, 1, none⟩ (.slice D 1 dc) = w6 := ⟨_, rfl⟩
    have h6 := H5.out.set_ (i := 4) rfl 1 (.slice D 1 dc)
    rw [hw6] at h6 ⊢
    change Sep w6 (rowA _ 1 (.slice D 1 dc) 1 (bs [120]) :: _ :: _ :: _ :: blkA Y _ (gclE (.slice FA 3 fc) (.slice D 1 dc)) :: _) at h6
    clear kX kX5 kY kY5 n1 n2 HR H4 H5 hw6
    have f0 : w6.cell? ⟨g, 0, none⟩ = some (.pointer (some ⟨kb, 0, none⟩)) := (h6.at_ (i := 2) rfl).1 0
    have f1 : w6.cell? ⟨w.heap.size, 1, none⟩ = some (.int .i64 1) := (h6.at_ (i := 1) rfl).1 1
    have f2 : w6.cell? ⟨w.heap.size, 4, none⟩ = some (.slice BA 1 bc) := (h6.at_ (i := 1) rfl).1 4
    have l1 := (h6.at_ (i := 2) rfl).2.2
    have l2 := (h6.at_ (i := 1) rfl).2.2
    have H6 := Lib.hid (((((h6.drew.front 16 rfl).front 16 rfl).front 16 rfl).front 16 rfl).front 16 rfl)
    clear h6
    go_wp2
    go_region_held3 (fun w' => w'.cell? ⟨g, 0, none⟩ = some (.pointer (some ⟨kb, 0, none⟩)) ∧ w'.cell? ⟨w.heap.size, 1, none⟩ = some (.int .i64 1) ∧ w'.cell? ⟨w.heap.size, 4, none⟩ = some (.slice BA 1 bc)) (first | (with_reducible exact ⟨f0, f1, f2⟩) | (with_reducible exact ⟨g0, g1, g2⟩) | go_keep)
      (first | (go_at_call 166; refine (cn_used1 H6.out).mono ?_; rintro e w7 ⟨rfl, h7⟩; have kX7 := h7.at_ (i := 6) rfl; have kG7 := h7.at_ (i := 7) rfl; have g0 : w7.cell? ⟨g, 0, none⟩ = some (.pointer (some ⟨kb, 0, none⟩)) := kG7.1 0; have g1 : w7.cell? ⟨w.heap.size, 1, none⟩ = some (.int .i64 1) := kX7.1 1; have g2 : w7.cell? ⟨w.heap.size, 4, none⟩ = some (.slice BA 1 bc) := kX7.1 4; have H7 := Lib.hid h7; clear h7 kG7))
    have h8 := (((((H7.out.drop_ 6).front 15 rfl).front 15 rfl).front 15 rfl).front 15 rfl).front 15 rfl
    have h9 := (((((h8.front 15 rfl).front 11 rfl).front 15 rfl).front 15 rfl).front 15 rfl).front 15 rfl
    have H9 := Lib.hid h9
    clear f0 f1 f2 l1 l2 g0 g1 g2 H6 h8 h9
    go_wp2_with fail
    refine (ga_whole hP (io := io + 6) hio H9.out).mono ?_
    rintro e w8 ⟨rfl, fa, fc2, ba, bc2, ad, jc, h8⟩
    have H8 := Lib.hid h8
    clear h8 H9 H7 kX7
    go_wp2
    refine bodyPost_end (results_none rfl _ _ _) rfl ?_
    exact ⟨rfl, fa, fc2, ba, bc2, ad, jc, D, dc, H8.out.drop_ 10⟩
end Go.Proofs.YtbgnggkgmeagkaaGreatDoor
