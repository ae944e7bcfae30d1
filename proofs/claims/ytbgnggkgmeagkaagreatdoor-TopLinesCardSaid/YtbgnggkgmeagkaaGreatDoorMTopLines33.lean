/-
  A gate answers a call: the call goes, the log grows. Conditions: as in XGsay.
  A gate is told what a job came to. Conditions: the table of powers; the answer is the one of the closed run.
-/
import Derived.Test.YtbgnggkgmeagkaaGreatDoorMTopLines32
import Derived.Test.YtbgnggkgmeagkaaGreatDoorMTopLines28
import Derived.Test.YtbgnggkgmeagkaaGreatDoorMTopLines26
import Derived.Test.YtbgnggkgmeagkaaGreatDoorMTopLines30
import Derived.Test.YtbgnggkgmeagkaaGreatDoorMTopLines27
set_option linter.unusedSimpArgs false
set_option linter.unusedVariables false
namespace Go.Proofs.YtbgnggkgmeagkaaGreatDoor
open Go.RowKit Go.Shelf
def entV (b : Int) : Array Value := #[.int .i64 0, .int .i64 200, .int .i64 b, .int .i64 0, .string ⟨#[80, 79, 83, 84]⟩, .string ⟨#[47, 112]⟩]
theorem ent_info : (Tryz.prog.info? 233).map (fun i => (i.zero, i.size, i.bytes)) = some (some (.agg #[.int .i64 0, .int .i64 0, .int .i64 0, .int .i64 0, .string ⟨#[]⟩, .string ⟨#[]⟩]), 6, 64) := by kernel_rfl
theorem del_gcall {w : World} {L : List Atom} {i M Y c : Nat} (h : Sep w L) (hi : L[i]? = some (mapA M (ent1 (.pointer (some ⟨Y, 0, none⟩))) c)) (ty : TypeId) :
    (Builtin.delete_ #[116, 3] ty #[.map (some M), .int .i64 1]).run Tryz.prog w = .ok (.tuple #[]) (putM w M #[] c) :=
  by
    have e : (ent1 (.pointer (some ⟨Y, 0, none⟩))).eraseIdxIfInBounds 0 = #[] := by simp [ent1, Array.eraseIdxIfInBounds]
    have h1 := run_del (P := Tryz.prog) (t := 116) (k := .int .i64 1) ty Tryz.underlying116 Tryz.underlying3 rfl (h.map_ hi) (i := 0) (v0 := .pointer (some ⟨Y, 0, none⟩)) (by rfl)
    rw [e] at h1
    exact h1
theorem wpList_del {P : Program} {ops : Array Oper} {rest : List Oper} {o : Oper} {a : Act} {Q : Exit → Act → World → Prop} {w : World} (hgd : o.guard = none) (s x : Operand) (t u : TypeId)
    (ho : o.op = .call { callee := .builtin .delete, args := #[s, x], argTypes := #[t, u] }) (v0 x0 : Value) (hs : a.eval s = v0) (hx : a.eval x = x0) (v' : Value) (w' : World)
    (hrun : (Builtin.delete_ #[t, u] o.type #[v0, x0]).run P w = .ok v' w') (h : wpList P ops Q rest (a.put o.dst v') w') : wpList P ops Q (o :: rest) a w :=
  wpList_plain hgd fun _ hK => by
    unfold Oper.wp execOp
    simp only [ho, resolve, invoke, builtin, Sem.run_bind, Sem.run_pure, Result.andThen_ok, List.map_toArray, List.map_cons, List.map_nil, hs, hx, hrun]
    exact hK _ _ h
set_option maxRecDepth 100000 in
set_option maxHeartbeats 4000000 in
theorem ga_answer {w w0 : World} {F : List Atom} {io g kb C S M MS X n c mc sc gg hh bc Li St CM JM Y cm : Nat} {A BA : Option Addr} {R inn part evs fl bd y5 y6 y7 : Value} {xs : List UInt8} {iw un ci cu last : Int} {began : Bool} (hn : n ≤ 900) (hP : Pow w0) (hio : F[io]? = some (oldA w0))
    (h : Sep w (blkA g 120 (gatV kb R Li St CM JM last (.slice none 0 0)) :: blkA C 93 (coderV gg hh) :: tabA gg none 0 [] 4096 :: blkA kb 200 (conV C S M (.slice none 0 0) inn (.slice A n c) iw 2000 un began part evs) :: rowA 5 1 (.slice A n c) n (bs xs) :: mapA M (ent1 (.pointer (some ⟨X, 0, none⟩))) mc ::
      blkA X 313 (chnV ci 2000 cu (.slice none 0 0) false false) :: blkA S 254 (stmV MS 1) :: mapA MS (ent1 (.int .i64 2)) sc :: rowA 5 1 (.slice BA 4 bc) 4 (bs bodyL) ::
      mapA CM (ent1 (.pointer (some ⟨Y, 0, none⟩))) cm :: blkA Y 146 (gclV fl bd (.string ⟨#[80, 79, 83, 84]⟩) (.string ⟨#[47, 112]⟩) y5 y6 y7 0) :: F)) :
    Calls Tryz.prog 68 #[.pointer (some ⟨g, 0, none⟩), .int .i64 1, .agg (repV 200 (.slice none 0 0) (.slice BA 4 bc))] w fun e w' => e = .returned (.tuple #[]) ∧ ∃ A' c' Q' OA oc log, Sep w' (blkA g 120 (gatV kb R Li St CM JM last log) :: blkA kb 200 (conV C S M (.slice OA 0 oc) inn (.slice A' (n + 26) c') iw 1996 un began part evs) :: rowA 5 1 (.slice A' (n + 26) c') (n + 26) (bs (xs ++ rsB)) :: rowA 3 1 (.slice OA 0 oc) 0 [] :: mapA M (ent1 (.pointer (some ⟨X, 0, none⟩))) mc ::
      blkA X 313 (chnV ci 1996 cu Q' false true) :: blkA S 254 (stmV MS 1) :: mapA MS (ent1 (.int .i64 4)) sc :: F) := by
  have h0 := h.newBlk 69 (repV 200 (.slice none 0 0) (.slice BA 4 bc))
  obtain ⟨W0, hW0⟩ : ∃ W0, w.alloc (.cells (repV 200 (.slice none 0 0) (.slice BA 4 bc)) 69) = W0 := ⟨_, rfl⟩
  rw [hW0] at h0
  have kP := h0.at_ (i := 0) rfl
  have kg := h0.at_ (i := 1) rfl
  have ql := look_gcall h0 (i := 11) rfl
  have qd := fun ty => del_gcall h0 (i := 11) rfl ty
  have H0 := Lib.hid h0
  unfold repV at kP hW0
  unfold gatV at kg
  clear h h0
  unfold repV
  go_enter Tryz.func68, Tryz.ntmps68
  go_upto_region 3 with fail
  obtain ⟨w1, hw1⟩ : ∃ w1, putM W0 CM #[] cm = w1 := ⟨_, rfl⟩
  have h1 := H0.out.putMap (i := 11) rfl (es' := #[]) (c' := cm)
  rw [hw1] at h1 ⊢
  clear kP kg ql qd H0 hw1
  have kP := h1.at_ (i := 0) rfl
  have hs1 := (((((((((h1.front 10 rfl).front 10 rfl).front 10 rfl).front 10 rfl).front 10 rfl).front 10 rfl).front 10 rfl).front 10 rfl).front 10 rfl).front 10 rfl
  have HT := Lib.hid (ga_say hn hP (io := io + 3) hio hs1)
  unfold repV at kP HT
  clear h1 hs1
  go_wp2_with fail
  refine (show Calls _ _ _ _ _ from HT.out).mono ?_
  rintro e w2 ⟨rfl, A2, c2, Q2, OA, oc, h2⟩
  clear kP HT
  have kg := h2.at_ (i := 0) rfl
  have kP := h2.at_ (i := 9) rfl
  have kY := h2.at_ (i := 11) rfl
  have H2 := Lib.hid h2
  unfold gatV at kg
  unfold gclV at kY
  clear h2
  go_wp2_with fail
  have hwr : IntKind.i64.wrap 0 = 0 := by decide
  have f0 := kg.1 7
  have f1 := kP.1 0
  have f2 := kP.1 2
  have f3 := kY.1 3
  have f4 := kY.1 4
  have f5 := kY.1 8
  go_region_held3 (fun w' => w'.cell? ⟨g, 7, none⟩ = some (.int .i64 0) ∧ w'.cell? ⟨w.heap.size, 0, none⟩ = some (.int .i64 200) ∧ w'.cell? ⟨w.heap.size, 2, none⟩ = some (.slice BA 4 bc) ∧ w'.cell? ⟨Y, 3, none⟩ = some (.string ⟨#[80, 79, 83, 84]⟩) ∧ w'.cell? ⟨Y, 4, none⟩ = some (.string ⟨#[47, 112]⟩) ∧ w'.cell? ⟨Y, 8, none⟩ = some (.int .i64 0))
    (first | (with_reducible exact ⟨f0, f1, f2, f3, f4, f5⟩) | go_keep)
    (first
    | fail)
  go_upto_region 9 with fail
  obtain ⟨w3, hw3⟩ : ∃ w3, (w2.alloc (.cells #[.int .i64 0, .int .i64 200, .int .i64 4, .int .i64 0, .string ⟨#[80, 79, 83, 84]⟩, .string ⟨#[47, 112]⟩] 233)).drew = w3 := ⟨_, rfl⟩
  have h3 := (H2.out.newBlk 233 #[.int .i64 0, .int .i64 200, .int .i64 4, .int .i64 0, .string ⟨#[80, 79, 83, 84]⟩, .string ⟨#[47, 112]⟩]).drew
  rw [hw3] at h3 ⊢
  clear kg kP kY f0 f1 f2 f3 f4 f5 hw3 H2
  have kE := h3.at_ (i := 0) rfl
  have kg := h3.at_ (i := 1) rfl
  have h4 := (h3.nilRow 233 6).drew.newBlk 233 #[.int .i64 0, .int .i64 200, .int .i64 4, .int .i64 0, .string ⟨#[80, 79, 83, 84]⟩, .string ⟨#[47, 112]⟩]
  have kg4 := ((h3.newBlk 233 #[.int .i64 0, .int .i64 200, .int .i64 4, .int .i64 0, .string ⟨#[80, 79, 83, 84]⟩, .string ⟨#[47, 112]⟩])).at_ (i := 2) rfl
  have H4 := Lib.hid h4
  unfold gatV at kg kg4
  clear h3 h4
  go_wp2_with fail
  go_region_law (refine step_pushS rfl _ _ 118 233 rfl Tryz.underlying118 ent_info rfl (by decide) (by decide) _ 0 [] H4.out (i := 1) rfl (by simp [Act.eval, Act.put]) _ _ (j := 0) rfl rfl (by intro u hu; simp at hu; rcases hu with rfl | rfl | rfl | rfl | rfl | rfl <;> rfl) (by simp [Act.eval, Act.put]) (by decide) ?_; intro A5 c5 w5 h5 _; have kg5 := h5.at_ (i := 3) rfl; have H5 := Lib.hid h5; unfold gatV at kg5; clear h5)
  all_goals
    go_wp2
    refine bodyPost_end (results_none rfl _ _ _) rfl ?_
    have h6 := H5.out.set_ (i := 3) rfl 8 (.slice A5 1 c5)
    exact ⟨rfl, A2, c2, Q2, OA, oc, .slice A5 1 c5, (((((((h6.drop_ 0).drop_ 0).drop_ 0).drop_ 8).drop_ 8).drop_ 8).drop_ 8)⟩
end Go.Proofs.YtbgnggkgmeagkaaGreatDoor
namespace Go.Proofs.YtbgnggkgmeagkaaGreatDoor
open Go.RowKit Go.Shelf
theorem look_job {w : World} {L : List Atom} {i M c : Nat} {v : Value} (h : Sep w L) (hi : L[i]? = some (mapA M (ent1 v) c)) : (Instr.lookup 117 (.map (some M)) (.int .i64 1) true).run Tryz.prog w = .ok (.tuple #[v, .bool true]) w :=
  run_look (P := Tryz.prog) (t := 117) (k := .int .i64 1) Tryz.underlying117 Tryz.underlying3 rfl (h.map_ hi) (i := 0) (by rfl) true
theorem del_job {w : World} {L : List Atom} {i M c : Nat} {v : Value} (h : Sep w L) (hi : L[i]? = some (mapA M (ent1 v) c)) (ty : TypeId) :
    (Builtin.delete_ #[117, 3] ty #[.map (some M), .int .i64 1]).run Tryz.prog w = .ok (.tuple #[]) (putM w M #[] c) := by
  have e : (ent1 v).eraseIdxIfInBounds 0 = #[] := by simp [ent1, Array.eraseIdxIfInBounds]
  have h1 := run_del (P := Tryz.prog) (t := 117) (k := .int .i64 1) ty Tryz.underlying117 Tryz.underlying3 rfl (h.map_ hi) (i := 0) (v0 := v) (by rfl)
  rw [e] at h1
  exact h1
set_option maxRecDepth 100000 in
set_option maxHeartbeats 4000000 in
theorem ga_done {w w0 : World} {F : List Atom} {io g kb C S M MS X n c mc sc gg hh Li St CM JM Y cm jm b o tc jn jc fn7 fc7 bn8 bc8 : Nat} {A ja fa ba : Option Addr} {R inn part evs fl bd : Value} {xs : List UInt8} {iw un ci cu last : Int} {began : Bool} (hn : n ≤ 900) (hP : Pow w0) (hio : F[io]? = some (oldA w0)) (hR : RdIn F ⟨b, o, none⟩ repTL) (htc : 45 ≤ tc)
    (h : Sep w (blkA g 120 (gatV kb R Li St CM JM last (.slice none 0 0)) :: blkA C 93 (coderV gg hh) :: tabA gg none 0 [] 4096 :: blkA kb 200 (conV C S M (.slice none 0 0) inn (.slice A n c) iw 2000 un began part evs) :: rowA 5 1 (.slice A n c) n (bs xs) :: mapA M (ent1 (.pointer (some ⟨X, 0, none⟩))) mc ::
      blkA X 313 (chnV ci 2000 cu (.slice none 0 0) false false) :: blkA S 254 (stmV MS 1) :: mapA MS (ent1 (.int .i64 2)) sc ::
      mapA CM (ent1 (.pointer (some ⟨Y, 0, none⟩))) cm :: blkA Y 146 (gclV fl bd (.string ⟨#[80, 79, 83, 84]⟩) (.string ⟨#[47, 112]⟩) (.string ⟨#[104]⟩) (.slice fa fn7 fc7) (.slice ba bn8 bc8) 0) :: mapA JM (ent1 (.agg #[.int .i64 1, .string ⟨#[97, 108, 108]⟩, .slice ja jn jc])) jm :: F)) :
    Calls Tryz.prog 24 #[.pointer (some ⟨g, 0, none⟩), .int .i64 1, .slice (some ⟨b, o, none⟩) 45 tc, .bool false] w fun e w' => e = .returned .nilIface ∧ ∃ A' c' Q' OA oc log, Sep w' (blkA g 120 (gatV kb R Li St CM JM last log) :: blkA kb 200 (conV C S M (.slice OA 0 oc) inn (.slice A' (n + 26) c') iw 1996 un began part evs) :: rowA 5 1 (.slice A' (n + 26) c') (n + 26) (bs (xs ++ rsB)) :: rowA 3 1 (.slice OA 0 oc) 0 [] :: mapA M (ent1 (.pointer (some ⟨X, 0, none⟩))) mc ::
      blkA X 313 (chnV ci 1996 cu Q' false true) :: blkA S 254 (stmV MS 1) :: mapA MS (ent1 (.int .i64 4)) sc :: F) := by
  have kg := h.at_ (i := 0) rfl
  have ql := look_job h (i := 11) rfl
  have h0 := h.newBlk 141 #[.int .i64 1, .string ⟨#[97, 108, 108]⟩, .slice ja jn jc]
  have qd := fun ty => del_job h0 (i := 12) rfl ty
  have h1 := h0.putMap (i := 12) rfl (es' := #[]) (c' := jm)
  obtain ⟨W1, hW1⟩ : ∃ W1, putM (w.alloc (.cells #[.int .i64 1, .string ⟨#[97, 108, 108]⟩, .slice ja jn jc] 141)) JM #[] jm = W1 := ⟨_, rfl⟩
  rw [hW1] at h1 qd
  have H1 := Lib.hid h1
  unfold gatV at kg
  clear h h0 h1
  go_enter Tryz.func24, Tryz.ntmps24
  go_upto_region 5 with fail
  have kD := H1.out.at_ (i := 0) rfl
  have kg1 := H1.out.at_ (i := 1) rfl
  have ql1 := look_gcall H1.out.drew (i := 10) rfl
  have ql2 := look_gcall (H1.out.newBlk 25 #[.string ⟨#[]⟩, .string ⟨#[]⟩, .string ⟨#[]⟩, .slice none 0 0, .slice none 0 0]).drew (i := 11) rfl
  have kY := H1.out.at_ (i := 11) rfl
  unfold gatV at kg1
  unfold gclV at kY
  have hbm : (ByteArray.mk #[80, 79, 83, 84] == ByteArray.mk #[72, 69, 65, 68]) = false := by decide
  clear kg ql qd
  go_region
  all_goals
    have h2 := (H1.out.drew.newBlk 25 #[.string ⟨#[80, 79, 83, 84]⟩, .string ⟨#[47, 112]⟩, .string ⟨#[104]⟩, .slice fa fn7 fc7, .slice ba bn8 bc8])
    change Sep _ (_ :: _ :: _ :: _ :: _ :: _ :: _ :: _ :: _ :: _ :: _ :: _ :: _ :: mapA JM #[] jm :: F) at h2
    have kQ := h2.at_ (i := 0) rfl
    have HT := Lib.hid (rt_ok h2 (fun W hW => hR W hW.tail.tail.tail.tail.tail.tail.tail.tail.tail.tail.tail.tail.tail.tail) htc)
    clear kD kg1 ql1 ql2 kY H1 h2
    go_wp2_with fail
    refine (show Calls _ _ _ _ _ from HT.out).mono ?_
    rintro e w2 ⟨A2, c2, rfl, h2⟩
    have h3 := h2.newBlk 69 #[.int .i64 200, .slice none 0 0, .slice A2 4 c2]
    have kR := h3.at_ (i := 0) rfl
    have kQ2 := h3.at_ (i := 2) rfl
    have kg2 := h3.at_ (i := 4) rfl
    have kD2 := h3.at_ (i := 3) rfl
    have H3 := Lib.hid h3
    unfold gatV at kg2
    clear h2 h3 HT kQ
    go_upto_region 9 with fail
    obtain ⟨w3, hw3⟩ : ∃ w3, w2.alloc (.cells #[.int .i64 200, .slice none 0 0, .slice A2 4 c2] 69) = w3 := ⟨_, rfl⟩
    rw [hw3] at H3 kR kQ2 kg2 kD2 ⊢
    obtain ⟨Q0, hQ0⟩ : ∃ q, W1.drew.heap.size = q := ⟨_, rfl⟩
    have g3 := kg2.1 3
    have g7 := kg2.1 7
    have q0 : w3.cell? ⟨W1.heap.size, 0, none⟩ = _ := kQ2.1 0
    have q1 : w3.cell? ⟨W1.heap.size, 1, none⟩ = _ := kQ2.1 1
    have q2 : w3.cell? ⟨W1.heap.size, 2, none⟩ = _ := kQ2.1 2
    have q3 : w3.cell? ⟨W1.heap.size, 3, none⟩ = _ := kQ2.1 3
    have q4 : w3.cell? ⟨W1.heap.size, 4, none⟩ = _ := kQ2.1 4
    have r0 := kR.1 0
    have r1 := kR.1 1
    have r2 := kR.1 2
    go_region_held3 (fun w' => w'.cell? ⟨g, 3, none⟩ = some (.pointer (some ⟨St, 0, none⟩)) ∧ w'.cell? ⟨g, 7, none⟩ = some (.int .i64 0) ∧ w'.cell? ⟨W1.heap.size, 0, none⟩ = some (.string ⟨#[80, 79, 83, 84]⟩) ∧ w'.cell? ⟨W1.heap.size, 1, none⟩ = some (.string ⟨#[47, 112]⟩) ∧ w'.cell? ⟨W1.heap.size, 2, none⟩ = some (.string ⟨#[104]⟩) ∧ w'.cell? ⟨W1.heap.size, 3, none⟩ = some (.slice fa fn7 fc7) ∧ w'.cell? ⟨W1.heap.size, 4, none⟩ = some (.slice ba bn8 bc8) ∧ w'.cell? ⟨w2.heap.size, 0, none⟩ = some (.int .i64 200) ∧ w'.cell? ⟨w2.heap.size, 1, none⟩ = some (.slice none 0 0) ∧ w'.cell? ⟨w2.heap.size, 2, none⟩ = some (.slice A2 4 c2))
      (first | (with_reducible exact ⟨g3, g7, q0, q1, q2, q3, q4, r0, r1, r2⟩) | (with_reducible exact ⟨s3, s7, t0, t1, t2, t3, t4, u0, u1, u2⟩) | go_keep)
      (first
      | (go_at_call 67; refine (show Calls _ _ _ _ _ from sto_put (code := 200) H3.out.drew).mono ?_; rintro e w4 ⟨rfl, h4⟩; have kg4 := h4.at_ (i := 4) rfl; have kQ4 := h4.at_ (i := 2) rfl; have kR4 := h4.at_ (i := 0) rfl; have kD4 := h4.at_ (i := 3) rfl; unfold gatV at kg4; have s3 := kg4.1 3; have s7 := kg4.1 7; have t0 : w4.cell? ⟨W1.heap.size, 0, none⟩ = _ := kQ4.1 0; have t1 : w4.cell? ⟨W1.heap.size, 1, none⟩ = _ := kQ4.1 1; have t2 : w4.cell? ⟨W1.heap.size, 2, none⟩ = _ := kQ4.1 2; have t3 : w4.cell? ⟨W1.heap.size, 3, none⟩ = _ := kQ4.1 3; have t4 : w4.cell? ⟨W1.heap.size, 4, none⟩ = _ := kQ4.1 4; have u0 := kR4.1 0; have u1 := kR4.1 1; have u2 := kR4.1 2; have H4 := Lib.hid h4; clear h4 kg4 kQ4 H3 g3 g7 q0 q1 q2 q3 q4 r0 r1 r2 kR kQ2 kg2 kD2))
    clear s3 s7 t0 t1 t2 t3 t4 u0 u1 u2
    have hs := ((((((((((((H4.out.front 14 rfl).front 14 rfl).front 3 rfl).front 14 rfl).front 14 rfl).front 14 rfl).front 14 rfl).front 14 rfl).front 14 rfl).front 14 rfl).front 14 rfl).front 14 rfl)
    have HA := Lib.hid (ga_answer hn hP (io := io + 4) hio hs)
    have kD5 := H4.out.at_ (i := 3) rfl
    have kR5 := H4.out.at_ (i := 0) rfl
    unfold repV at HA
    clear hs H4 kD4 kR4
    go_wp2_with fail
    refine (show Calls _ _ _ _ _ from HA.out).mono ?_
    rintro e w6 ⟨rfl, A6, c6, Q6, OA, oc, log, h6⟩
    have H6 := Lib.hid h6
    clear h6 HA kD5 kR5
    go_wp2
    go_ret
    exact ⟨rfl, A6, c6, Q6, OA, oc, log, (((H6.out.drop_ 8).drop_ 8).drop_ 8).drop_ 8⟩
end Go.Proofs.YtbgnggkgmeagkaaGreatDoor
