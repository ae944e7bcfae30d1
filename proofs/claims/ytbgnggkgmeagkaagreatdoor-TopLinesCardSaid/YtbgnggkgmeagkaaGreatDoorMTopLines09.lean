/-
  Maps whose entries are written out: look-up, store, delete, len. Nothing of the program. No condition.
  'append([]byte(s), x...)': a row that a conversion made, its mark behind its cells. Condition: the bound on the bytes.
  A region that draws its order, walked once in the order of the text, at any class of worlds: its callees may make memory, if they stay in the class. Nothing of the program.
  A coder behind a pointer: its words; head.New, Resize. Condition: none but what the words say.
  Plain law: what one coder says the other one hears: lists of fields, sizes between. Nothing of the program.
-/
import Derived.Test.YtbgnggkgmeagkaaGreatDoorMTopLines01
import Derived.WideMake
import Derived.Test.YtbgnggkgmeagkaaGreatDoorMTopLines02
import Derived.Laws.IdiomCopy
import Derived.Deep.QuietTactic
import Derived.BigQuiet
import Derived.Test.YtbgnggkgmeagkaaGreatDoorMTopLines08
import Derived.Test.YtbgnggkgmeagkaaGreatDoorMTopLines07
set_option linter.unusedSimpArgs false
set_option linter.unusedVariables false
namespace Go.Proofs.YtbgnggkgmeagkaaGreatDoor
open Go.RowKit

/-- A map's block, laid anew. -/
def putM (w : World) (r : Nat) (es : Array MapEntry) (c : Nat) : World := { w with heap := w.heap.setIfInBounds r (.map es c) }
def IsMap (w : World) (r : Nat) (es : Array MapEntry) (c : Nat) : Prop := w.heap[r]? = some (.map es c)
section
variable {w w' w0 : World} {r : Nat} {es es' : Array MapEntry} {c c' : Nat}
theorem IsMap.lt (h : IsMap w r es c) : r < w.heap.size := by
  rcases Nat.lt_or_ge r w.heap.size with h1 | h1
  · exact h1
  · unfold IsMap at h
    rw [Array.getElem?_eq_none h1] at h
    cases h
theorem putM_size : (putM w r es c).heap.size = w.heap.size := by simp [putM]
theorem putM_same (h : IsMap w r es' c') : IsMap (putM w r es c) r es c := by
  have := h.lt
  simp [IsMap, putM, this]
theorem putM_other {k : Nat} (h : k ≠ r) : (putM w r es c).heap[k]? = w.heap[k]? := by
  simp [putM, Array.getElem?_setIfInBounds_ne (Ne.symm h)]
theorem putM_below {B : Nat} (h : Below B w0 w) (hr : B ≤ r) : Below B w0 (putM w r es c) :=
  ⟨h.os, h.tape, h.output, by rw [putM_size]; exact h.size, fun k hk => (putM_other (by omega)).trans (h.block k hk)⟩
theorem putM_grown : w.grownBy (putM w r es c) (some r) := ⟨rfl, rfl, rfl, by rw [putM_size]; exact Nat.le_refl _, fun k _ hk => putM_other (fun e => hk (by rw [e]))⟩
theorem putM_cell (h : IsMap w r es' c') (p : Addr) : (putM w r es c).cell? p = w.cell? p := by
  by_cases hp : p.block = r
  · have h1 := putM_same (es := es) (c := c) h
    unfold IsMap at h h1
    simp [World.cell?, hp, h, h1]
  · exact World.cell?_of_block (putM_other hp)
theorem putM_frozen (h : IsMap w r es' c') (p : Addr) : (putM w r es c).frozen? p = w.frozen? p := by
  by_cases hp : p.block = r
  · have h1 := putM_same (es := es) (c := c) h
    unfold IsMap at h h1
    simp [World.frozen?, hp, h, h1]
  · exact World.frozen?_of_block (putM_other hp)
theorem IsMap.below {B : Nat} (h : IsMap w r es c) (hb : Below B w w') (hr : r < B) : IsMap w' r es c := (hb.block r hr).trans h
theorem IsMap.setCell (h : IsMap w r es c) (p : Addr) (v : Value) : IsMap (w.setCell p v) r es c := by
  unfold IsMap at h ⊢
  by_cases hp : p.block = r
  · simp [World.setCell, Array.getElem?_modify, hp, h]
  · rw [← h]; exact Below.heap_setCell w p v r (fun e => hp e.symm)
theorem IsMap.blk_ne {g : Nat} {T : TypeId} {cs : Array Value} (h : IsMap w r es c) (hb : Blk w g T cs) : g ≠ r := by
  rintro rfl
  unfold IsMap at h
  unfold Blk at hb
  rw [h] at hb
  cases hb
theorem IsMap.own_ne {base size n : Nat} {e : TypeId} {v : Value} {xs : List Value} (h : IsMap w r es c) (ho : w.ownsRow base e size v n xs) : v.ownBlock ≠ some r := by
  rcases ho.2 with ⟨rfl, _⟩ | ⟨g, cap, cur, rfl, _, hh, _⟩
  · simp [Value.ownBlock]
  · intro e1
    have : g = r := by simpa [Value.ownBlock] using e1
    subst this
    exact IsMap.blk_ne (T := e) (cs := cur) h hh rfl
theorem Blk.putM {g : Nat} {T : TypeId} {cs : Array Value} (hb : Blk w g T cs) (h : IsMap w r es' c') : Blk (putM w r es c) g T cs := (putM_other (h.blk_ne hb)).trans hb
theorem own_putM {base size n : Nat} {e : TypeId} {v : Value} {xs : List Value} (ho : w.ownsRow base e size v n xs) (h : IsMap w r es' c') : (putM w r es c).ownsRow base e size v n xs :=
  ho.kept (row := some r) putM_grown (.inr (h.own_ne ho))
end
/-- Keys that are told apart at once. -/
def atOnce : TypeDesc → Bool
  | .string | .int _ => true
  | _ => false
section
variable {P : Program} {w : World} {t kt et : TypeId} {kd : TypeDesc} {r : Nat} {es : Array MapEntry} {clock : Nat} {k : Value}
theorem run_checkKey (e : Bool) (hk : P.underlying kt = some kd) (ho : atOnce kd = true) : (Instr.checkKey e 10000 kt k).run P w = .ok () w := by
  cases kd <;> first | (cases ho; done) | (unfold Instr.checkKey; simp [run_underlying hk])
theorem run_findKey (hk : P.underlying kt = some kd) {z : Option (Nat × Value)} (hf : Instr.findNow kd k es.toList 0 = some z) : (Instr.findKey kt k es.toList).run P w = .ok z w := by
  unfold Instr.findKey
  simp [run_underlying hk, hf]
theorem run_look (hm : P.underlying t = some (.map kt et)) (hk : P.underlying kt = some kd) (ho : atOnce kd = true) (hb : w.heap[r]? = some (.map es clock)) {i : Nat} {v : Value} (hf : Instr.findNow kd k es.toList 0 = some (some (i, v))) (ok : Bool) :
    (Instr.lookup t (.map (some r)) k ok).run P w = .ok (if ok then .tuple #[v, .bool true] else v) w := by
  unfold Instr.lookup
  simp [run_underlying hm, MapKept.run_getObj_map hb, Result.andThen, run_checkKey _ hk ho, run_findKey hk hf]
theorem run_look_no (hm : P.underlying t = some (.map kt et)) (hk : P.underlying kt = some kd) (ho : atOnce kd = true) (hb : w.heap[r]? = some (.map es clock)) (hf : Instr.findNow kd k es.toList 0 = some none) {z : Value} (hz : (zeroValue et).run P w = .ok z w) (ok : Bool) :
    (Instr.lookup t (.map (some r)) k ok).run P w = .ok (if ok then .tuple #[z, .bool false] else z) w := by
  unfold Instr.lookup
  simp [run_underlying hm, MapKept.run_getObj_map hb, Result.andThen, run_checkKey _ hk ho, run_findKey hk hf, hz]
theorem run_upd_new (hm : P.underlying t = some (.map kt et)) (hk : P.underlying kt = some kd) (ho : atOnce kd = true) (hb : w.heap[r]? = some (.map es clock)) (hf : Instr.findNow kd k es.toList 0 = some none) (v : Value) :
    (Instr.mapUpdate t (.map (some r)) k v).run P w = .ok () (putM w r (es.push ⟨k, v, clock⟩) (clock + 1)) := by
  unfold Instr.mapUpdate
  simp [run_underlying hm, MapKept.run_getObj_map hb, Result.andThen, run_checkKey _ hk ho, run_findKey hk hf, MapKept.run_setObj_map _ hb, putM]
theorem run_upd_old (hm : P.underlying t = some (.map kt et)) (hk : P.underlying kt = some kd) (ho : atOnce kd = true) (hb : w.heap[r]? = some (.map es clock)) {i : Nat} {v0 : Value} (hf : Instr.findNow kd k es.toList 0 = some (some (i, v0))) (hs : Instr.sameBits 10000 (((es[i]?).map (·.key)).getD k) k = true) (v : Value) :
    (Instr.mapUpdate t (.map (some r)) k v).run P w = .ok () (putM w r (es.modify i fun e => { e with key := k, val := v }) clock) := by
  unfold Instr.mapUpdate
  simp [run_underlying hm, MapKept.run_getObj_map hb, Result.andThen, run_checkKey _ hk ho, run_findKey hk hf, Instr.keyThatStays, hs, MapKept.run_setObj_map _ hb, putM]
theorem run_del (ty : TypeId) (hm : P.underlying t = some (.map kt et)) (hk : P.underlying kt = some kd) (ho : atOnce kd = true) (hb : w.heap[r]? = some (.map es clock)) {i : Nat} {v0 : Value} (hf : Instr.findNow kd k es.toList 0 = some (some (i, v0))) :
    (Builtin.delete_ #[t, kt] ty #[.map (some r), k]).run P w = .ok (.tuple #[]) (putM w r (es.eraseIdxIfInBounds i) clock) := by
  unfold Builtin.delete_
  simp [run_underlying hm, MapKept.run_getObj_map hb, Result.andThen, run_checkKey _ hk ho, run_findKey hk hf, MapKept.run_setObj_map _ hb, putM]
theorem run_mlen (ty : TypeId) (hm : P.underlying t = some (.map kt et)) (hb : w.heap[r]? = some (.map es clock)) :
    (Builtin.len_ #[t] ty #[.map (some r)]).run P w = .ok (goInt es.size) w := by
  unfold Builtin.len_
  simp [run_underlying hm, MapKept.run_getObj_map hb, Result.andThen]
end
end Go.Proofs.YtbgnggkgmeagkaaGreatDoor
namespace Go.Proofs.YtbgnggkgmeagkaaGreatDoor
open Go.RowKit

theorem size_setCells (b : Nat) : ∀ (vs : List Value) (o : Nat) (w : World), (w.setCells b o vs).heap.size = w.heap.size
  | [], _, _ => rfl
  | v :: r, o, w => by rw [World.setCells, size_setCells b r]; simp [World.setCell]
theorem below_setCells {B b : Nat} {w : World} (hb : B ≤ b) : ∀ (vs : List Value) (o : Nat) (w1 : World), Below B w w1 → Below B w (w1.setCells b o vs)
  | [], _, _, h => h
  | v :: r, o, w1, h => by rw [World.setCells]; exact below_setCells hb r (o + 1) _ (h.setCell (p := ⟨b, o, none⟩) hb v)
theorem u8_z : (Value.int .u8 0).cells.size = 1 := rfl
theorem wpList_append_run {P : Program} {ops : Array Oper} {rest : List Oper} {o : Oper} {a : Act} {Q : Exit → Act → World → Prop} {w : World} (hgd : o.guard = none) (s x : Operand) (t : TypeId)
    (ho : o.op = .call { callee := .builtin .append, args := #[s, x], argTypes := #[t, t] }) (v0 x0 : Value) (hs : a.eval s = v0) (hx : a.eval x = x0) (v' : Value) (w' : World)
    (hrun : (Builtin.append_ #[t, t] o.type #[v0, x0]).run P w = .ok v' w') (h : wpList P ops Q rest (a.put o.dst v') w') : wpList P ops Q (o :: rest) a w :=
  wpList_plain hgd fun _ hK => by
    unfold Oper.wp execOp
    simp only [ho, resolve, invoke, builtin, Sem.run_bind, Sem.run_pure, Result.andThen_ok, List.map_toArray, List.map_cons, List.map_nil, hs, hx, hrun]
    exact hK _ _ h
/-- What comes of it: bytes, new. -/
def AppStr (W W2 : World) (v : Value) (l : List UInt8) : Prop := ∃ ad c, v = .slice (some ad) l.length c ∧ l.length ≤ c ∧ W.heap.size ≤ ad.block ∧ ad.block < W2.heap.size ∧ Reads W2 W2.heap.size 1 (some ad) l.length (bs l) ∧ Below W.heap.size W W2
set_option maxRecDepth 100000 in
theorem run_append_str (ty : TypeId) (W : World) (l : List UInt8) (A : Option Addr) (cc : Nat) (news : List UInt8) (hr : Reads W W.heap.size 1 A news.length (bs news)) (hb : l.length + news.length ≤ 140737488355328) :
    ∃ c W1, (convert 9 23 (.string ⟨l.toArray⟩)).run Tryz.prog W = .ok (.slice (some ⟨W.heap.size, 0, none⟩) l.length c) W1 ∧ Below W.heap.size W W1 ∧
      ∃ v W2, (Builtin.append_ #[23, 23] ty #[.slice (some ⟨W.heap.size, 0, none⟩) l.length c, .slice A news.length cc]).run Tryz.prog W1 = .ok v W2 ∧ AppStr W W2 v (l ++ news) := by
  obtain ⟨i, hi, hz0, hz1, hz2⟩ := info_parts u8_info
  have h := Lib.run_convert_string_bytes (P := Tryz.prog) W 9 23 5 ⟨l.toArray⟩ Tryz.underlying9 Tryz.underlying23 Tryz.underlying5
  have hs : (ByteArray.mk l.toArray).size = l.length := rfl
  rw [hs] at h
  have hcap := grownCap_ge W l.length 0 5
  obtain ⟨c, hc⟩ : ∃ c, grownCap W l.length 0 5 = c := ⟨_, rfl⟩
  obtain ⟨W1, hW1⟩ : ∃ W1, Lib.bytesWorld W 5 ⟨l.toArray⟩ = W1 := ⟨_, rfl⟩
  have hbw : Below W.heap.size W W1 := by
    rw [← hW1]
    refine ⟨?_, ?_, ?_, by rw [Lib.bytesWorld_size]; omega, fun k hk => Lib.bytesWorld_at_old _ _ _ k hk⟩
    all_goals simp [Lib.bytesWorld, World.freeze, World.alloc, World.drew, -World.alloc_eq, -World.drew_eq]
  have hsz1 : W1.heap.size = W.heap.size + 1 := by rw [← hW1, Lib.bytesWorld_size]
  have hnew := Lib.bytesWorld_at_new W 5 ⟨l.toArray⟩
  obtain ⟨cur, hcur⟩ : ∃ cur, Lib.bytesCells W 5 ⟨l.toArray⟩ = cur := ⟨_, rfl⟩
  have hcsz : cur.size = c := by
    rw [← hcur]
    simp only [Lib.bytesCells, Array.size_append, Array.size_map, Array.size_replicate, List.size_toArray, hs, hc]
    rw [hc] at hcap
    omega
  have holds : ∀ j u, (bs l)[j]? = some u → W1.cell? ((⟨W.heap.size, 0, none⟩ : Addr).add j) = some u := by
    intro j u hu
    have hj : j < l.length := by
      have := (List.getElem?_eq_some_iff.1 hu).1
      simpa [bs] using this
    rw [Addr.add_lit, Nat.zero_add, ← hW1, Lib.bytesWorld_cell _ _ _ _ (by rw [hs]; exact hj), ← hu, bs_at l hj]
    simp [hj]
  rw [hW1, hcur] at hnew
  rw [hW1, hc] at h
  rw [hc] at hcap
  clear hW1 hc hcur
  refine ⟨c, W1, h, hbw, ?_⟩
  clear h
  have hr1 := hr.below hbw
  have hcell : ∀ j, j < c → (W1.cell? ⟨W.heap.size, j, none⟩).isSome = true := by
    intro j hj
    rw [cell_of_row _ _ _ _ _ _ hnew, Array.getElem?_eq_getElem (by omega)]
    rfl
  have hfr : ∀ j, j < c → W1.frozen? ⟨W.heap.size, j, none⟩ = false := by
    intro j hj
    have : ¬ cur.size ≤ j := by omega
    simp [World.frozen?, hnew, this]
  cases A with
  | none =>
    have h0 : news.length = 0 := by
      rcases Nat.eq_zero_or_pos news.length with h | h
      · exact h
      · obtain ⟨ad, e, _⟩ := hr.2 h
        cases e
    have hn : news = [] := List.eq_nil_of_length_eq_zero h0
    subst hn
    refine ⟨.slice (some ⟨W.heap.size, 0, none⟩) l.length c, W1, ?_, ⟨⟨W.heap.size, 0, none⟩, c, by simp, by simpa using hcap, Nat.le_refl _, (show W.heap.size < W1.heap.size by omega), ?_, hbw⟩⟩
    · simp [Builtin.append_, run_underlying Tryz.underlying23, sizeOf, typeInfo, hi, Builtin.lenOf, Builtin.firstCells, hcap, storeCells]
    · simp only [List.append_nil]
      exact ⟨by simp [bs], fun _ => ⟨_, rfl, (show W.heap.size < W1.heap.size by omega), holds⟩⟩
  | some ad =>
    have hnews : ∀ j u, (bs news)[j]? = some u → W1.cell? (ad.add j) = some u := by
      intro j u hu
      have hj : 0 < news.length := by
        have := (List.getElem?_eq_some_iff.1 hu).1
        simp [bs] at this
        omega
      obtain ⟨ad', e, _, hcc⟩ := hr1.2 hj
      injection e with e
      subst e
      exact hcc j u hu
    by_cases hroom : l.length + news.length ≤ c
    · have hf := run_firstCells_some (P := Tryz.prog) W1 1 news.length ad news.length cc (bs news) (by simp [bs]) hnews
      have hst := run_storeCells_cells (P := Tryz.prog) W.heap.size l.length (bs news) 0 W1 (fun j hj => hcell _ (by simp [bs] at hj; omega)) (fun j hj => hfr _ (by simp [bs] at hj; omega)) (bs_one news)
      simp only [Nat.add_zero] at hst
      refine ⟨.slice (some ⟨W.heap.size, 0, none⟩) (l.length + news.length) c, W1.setCells W.heap.size l.length (bs news), ?_, ⟨⟨W.heap.size, 0, none⟩, c, by simp, by simpa using hroom, Nat.le_refl _, (show W.heap.size < (W1.setCells W.heap.size l.length (bs news)).heap.size by rw [size_setCells]; omega), ?_, below_setCells (Nat.le_refl _) _ _ _ hbw⟩⟩
      · simp [Builtin.append_, run_underlying Tryz.underlying23, sizeOf, typeInfo, hi, hz1, Builtin.lenOf, hroom, hf, Addr.add_lit, hst]
      · rw [bs_append, List.length_append]
        refine ⟨by simp [bs], fun _ => ⟨_, rfl, (show W.heap.size < (W1.setCells W.heap.size l.length (bs news)).heap.size by rw [size_setCells]; omega), fun j u hu => ?_⟩⟩
        rw [Addr.add_lit, Nat.zero_add]
        by_cases hj : j < l.length
        · rw [World.cell?_setCells_out _ _ _ _ _ (fun _ _ => .inl hj)]
          have := holds j u (by rwa [List.getElem?_append_left (by simpa [bs] using hj)] at hu)
          rwa [Addr.add_lit, Nat.zero_add] at this
        · have hlt := (List.getElem?_eq_some_iff.1 hu).1
          rw [List.getElem?_append_right (by simp [bs]; omega)] at hu
          have hj2 : j - l.length < (bs news).length := by
            have := (List.getElem?_eq_some_iff.1 hu).1
            simpa [bs_length] using this
          have := World.cell?_setCells_in W.heap.size (bs news) l.length W1 (fun i hi => hcell _ (by simp [bs] at hi; omega)) (j - l.length) hj2
          rw [show l.length + (j - l.length) = j by omega] at this
          rw [this, ← hu, bs_length, List.getElem?_eq_getElem hj2]
    · have hrun := run_append_grow (P := Tryz.prog) W1 23 ty 5 i (.int .u8 0) Tryz.underlying23 hi hz0 ⟨W.heap.size, 0, none⟩ l.length c (bs l) (by rw [hz1]; simp [bs]) holds ad news.length cc (bs news) (by rw [hz1]; simp [bs]) hnews (by omega) (by omega) (by rw [hz2]; exact growslice_fits (by omega) (by omega))
      refine ⟨_, _, hrun, ⟨⟨W1.heap.size, 0, none⟩, _, by rw [List.length_append], by rw [List.length_append]; exact grownCap_ge _ _ _ _, hbw.size, by simp, ?_, ?_⟩⟩
      · rw [bs_append, List.length_append]
        refine ⟨by simp [bs], fun _ => ⟨_, rfl, by simp, fun j u hu => ?_⟩⟩
        rw [Addr.add_lit, Nat.zero_add]
        have hlt := (List.getElem?_eq_some_iff.1 hu).1
        rw [show W1.heap.size = W1.drew.heap.size from rfl, cell_of_row _ _ _ _ _ _ (heap_alloc_new W1.drew _)]
        rw [← hu, Array.getElem?_append_left (by simpa using hlt)]
        simp
      · exact hbw.drew.alloc hbw.size _
end Go.Proofs.YtbgnggkgmeagkaaGreatDoor
namespace Go.Proofs.YtbgnggkgmeagkaaGreatDoor
open Go.RowKit

/-- A world of a class. -/
structure WIn (C : World → Prop) where
  w : World
  h : C w
theorem quiet_in {P : Program} {id : Nat} {Q : Exit → Act → World → Prop} {a : Act} {w : World} {l : List Oper} (C0 : World → Prop) (hm : P.follows .mixedOrders = true) (hB : Region.lexB .any l.toArray = true) (hC : C0 w.drew)
    (h : Nonempty (WIn C0) → wpQuiet P l.toArray (fun w' => ∃ x : WIn C0, w' = x.w) (fun a' => ∀ w', (∃ x : WIn C0, w' = x.w) → Q .normal a' w') l a) : (Code.region id l.toArray true).wp P Q a w :=
  wp_region_quiet (C := fun w' => ∃ x : WIn C0, w' = x.w) hm hB ⟨⟨_, hC⟩, rfl⟩ (by simpa using h ⟨⟨_, hC⟩⟩)
theorem quiet_call {P : Program} {f : FuncId} {args : Array Value} {C0 : World → Prop} {x : WIn C0} {v : Value} {R : Ending → World → Prop} (h : Calls P f args x.w R) (hR : ∀ e w', R e w' → e = .returned v ∧ C0 w') :
    Calls P f args x.w fun e w'' => e = .returned v ∧ ∃ y : WIn C0, w'' = y.w :=
  h.mono fun e w' hr => ⟨(hR e w' hr).1, ⟨_, (hR e w' hr).2⟩, rfl⟩
end Go.Proofs.YtbgnggkgmeagkaaGreatDoor
namespace Go.Proofs.YtbgnggkgmeagkaaGreatDoor
open Go.RowKit
variable {qo : Value × Value × Value}
variable {qq : Value × Value}
attribute [local go_sem ↓] Go.wp_at_zero Go.wp_at_succ

/-- Sizes as values. -/
def szs (ps : List Nat) : List Value := ps.map fun p => .int .i64 ((p : Nat) : Int)
theorem szs_append (a b : List Nat) : szs (a ++ b) = szs a ++ szs b := by simp [szs]
theorem szs_length (ps : List Nat) : (szs ps).length = ps.length := by simp [szs]
/-- A coder for what goes out: its block, its table, its sizes. -/
structure COut (w : World) (C g : Nat) (A : Option Addr) (c : Nat) (Sv : Value) (xs : List Fld) (mx : Nat) (ps : List Nat) (qo : Value × Value × Value) : Prop where
  blk : Blk w C 93 #[.pointer (some ⟨g, 0, none⟩), qo.1, qo.2.1, Sv, qo.2.2]
  tab : Tab w g A c xs mx
  row : w.ownsRow 0 3 1 Sv ps.length (szs ps)
def oOwn (C g : Nat) (A : Option Addr) (Sv : Value) (k : Nat) : Prop := k = C ∨ tOwn g A k ∨ Sv.ownBlock = some k
/-- A coder for what comes: its block, its table, the size at New, whether it is bad. -/
structure CIn (w : World) (C h : Nat) (A : Option Addr) (c : Nat) (ys : List Fld) (my most : Nat) (bad : Bool) (qq : Value × Value) : Prop where
  blk : Blk w C 93 #[qq.1, .pointer (some ⟨h, 0, none⟩), .int .i64 ((most : Nat) : Int), qq.2, .bool bad]
  tab : Tab w h A c ys my
def iOwn (C h : Nat) (A : Option Addr) (k : Nat) : Prop := k = C ∨ tOwn h A k
section
variable {w w' : World} {C g h : Nat} {A : Option Addr} {c : Nat} {Sv : Value} {xs ys : List Fld} {mx my most : Nat} {ps : List Nat} {bad : Bool} {S : Nat → Prop}
theorem COut.keep (H : COut w C g A c Sv xs mx ps qo) (hk : Keep S w w') (hS : ∀ k, oOwn C g A Sv k → ¬ S k) : COut w' C g A c Sv xs mx ps qo := by
  obtain ⟨hb, ht, hr⟩ := H
  exact ⟨hb.keep hk (hS C (.inl rfl)), ht.keep hk fun k h => hS k (.inr (.inl h)), ownRow_keep hr hk fun k h => hS k (.inr (.inr h))⟩
theorem COut.below (H : COut w C g A c Sv xs mx ps qo) (hb : Below w.heap.size w w') : COut w' C g A c Sv xs mx ps qo := H.keep (S := fun _ => False) (Keep.of_below hb) fun _ _ h => h
theorem COut.lt (H : COut w C g A c Sv xs mx ps qo) : ∀ k, oOwn C g A Sv k → k < w.heap.size := by
  obtain ⟨hb, ht, hr⟩ := H
  rintro k (rfl | hk | hk)
  · exact hb.lt
  · exact ht.lt k hk
  · exact (hr.lt k hk).2
theorem CIn.keep (H : CIn w C h A c ys my most bad qq) (hk : Keep S w w') (hS : ∀ k, iOwn C h A k → ¬ S k) : CIn w' C h A c ys my most bad qq := by
  obtain ⟨hb, ht⟩ := H
  exact ⟨hb.keep hk (hS C (.inl rfl)), ht.keep hk fun k h => hS k (.inr h)⟩
theorem CIn.below (H : CIn w C h A c ys my most bad qq) (hb : Below w.heap.size w w') : CIn w' C h A c ys my most bad qq := H.keep (S := fun _ => False) (Keep.of_below hb) fun _ _ h => h
theorem CIn.lt (H : CIn w C h A c ys my most bad qq) : ∀ k, iOwn C h A k → k < w.heap.size := by
  obtain ⟨hb, ht⟩ := H
  rintro k (rfl | hk)
  · exact hb.lt
  · exact ht.lt k hk
/-- The coder's own block is none of the table's, none of the row's. -/
theorem COut.ne (H : COut w C g A c Sv xs mx ps qo) : ¬ tOwn g A C ∧ Sv.ownBlock ≠ some C ∧ ∀ k, Sv.ownBlock = some k → ¬ tOwn g A k := by
  obtain ⟨hb, ht, hr⟩ := H
  have h1 : ¬ tOwn g A C := by
    rintro (rfl | ⟨a, ha, he⟩)
    · exact Blk.ne_ hb ht.blk (by decide) rfl
    · have := own_blk_ne ht.own hb (by decide)
      rw [ha] at this
      exact this (by simp [Value.ownBlock, he])
  refine ⟨h1, own_blk_ne hr hb (by decide), fun k hk => ?_⟩
  rcases hr.2 with ⟨rfl, _⟩ | ⟨q, cap, cur, rfl, _, hq, _⟩
  · simp [Value.ownBlock] at hk
  · have e : q = k := by simpa [Value.ownBlock] using hk
    subst e
    have hqb : Blk w q 3 cur := hq
    rintro (rfl | ⟨a, ha, he⟩)
    · exact Blk.ne_ hqb ht.blk (by decide) rfl
    · have := own_blk_ne ht.own hqb (by decide)
      rw [ha] at this
      exact this (by simp [Value.ownBlock, he])
end
/-- What a call leaves of a coder for what goes out. -/
def OutDone (w w' : World) (C g : Nat) (A : Option Addr) (Sv : Value) (xs' : List Fld) (mx' : Nat) (ps' : List Nat) (qo : Value × Value × Value) : Prop :=
  ∃ A' c' Sv', COut w' C g A' c' Sv' xs' mx' ps' qo ∧ Keep (oOwn C g A Sv) w w' ∧ ∀ k, oOwn C g A' Sv' k → oOwn C g A Sv k ∨ w.heap.size ≤ k

set_option maxRecDepth 100000 in
set_option maxHeartbeats 2000000 in
theorem cnew_no (m : Int) (h : m < 0 ∨ 4096 < m) (w : World) :
    Calls Tryz.prog 9 #[.int .i64 m] w fun e w' => e = .returned (.tuple #[.pointer none, .iface 95 (.int .i64 1)]) ∧ w = w' := by
  have H := Lib.hid h
  clear h
  go_enter Tryz.func9, Tryz.ntmps9
  go_wp2_with fail
  refine (new_no m H.out _).mono ?_
  rintro e w' ⟨rfl, rfl⟩
  go_wp2
  go_ret2
  exact ⟨rfl, rfl⟩
set_option maxRecDepth 100000 in
set_option maxHeartbeats 2000000 in
theorem cnew_yes (m : Nat) (hm : m ≤ 4096) (w : World) :
    Calls Tryz.prog 9 #[.int .i64 (m : Int)] w fun e w' => ∃ C g h, e = .returned (.tuple #[.pointer (some ⟨C, 0, none⟩), .nilIface]) ∧ COut w' C g none 0 (.slice none 0 0) [] m [] (.pointer (some ⟨h, 0, none⟩), .int .i64 ((m : Nat) : Int), .bool false) ∧ CIn w' C h none 0 [] m m false (.pointer (some ⟨g, 0, none⟩), .slice none 0 0) ∧
      Below w.heap.size w w' ∧ w.heap.size ≤ C ∧ w.heap.size ≤ g ∧ w.heap.size ≤ h ∧ h ≠ g ∧ h ≠ C := by
  go_enter Tryz.func9, Tryz.ntmps9
  go_wp2_with fail
  refine (new_yes m hm w).mono ?_
  rintro e w1 ⟨rfl, hT1, hb1, -⟩
  have HT1 := Lib.hid hT1
  have HB1 := Lib.hid hb1
  clear hT1 hb1
  go_wp2_with fail
  refine (new_yes m hm w1).mono ?_
  rintro e w2 ⟨rfl, hT2, hb2, -⟩
  have HT2 := Lib.hid hT2
  have HB2 := Lib.hid hb2
  clear hT2 hb2
  go_wp2
  go_ret2
  have hb3 := (Below.refl w2.heap.size w2).alloc (Nat.le_refl _) (.cells #[.pointer (some ⟨w.heap.size, 0, none⟩), .pointer (some ⟨w1.heap.size, 0, none⟩), .int .i64 ((m : Nat) : Int), .slice none 0 0, .bool false] 93)
  have s1 := HB1.out.size
  have s2 := HB2.out.size
  refine ⟨w2.heap.size, w.heap.size, w1.heap.size, rfl, ⟨Blk.new w2 _ _, (HT1.out.below HB2.out).below hb3, World.ownsRow_nil _ _ _ _⟩, ⟨Blk.new w2 _ _, HT2.out.below hb3⟩,
    (HB1.out.trans (HB2.out.mono s1)).trans (hb3.mono (by omega)), by omega, by omega, by omega, by have := HT1.out.blk.lt; omega, by have := HT2.out.blk.lt; omega⟩

theorem int_info : (Tryz.prog.info? 3).map (fun i => (i.zero, i.size, i.bytes)) = some (some (.int .i64 0), 1, 8) := by kernel_rfl
theorem cres_end {w w1 w2 : World} {C g : Nat} {A : Option Addr} {c p : Nat} {Sv v2 : Value} {xs' : List Fld} {ps : List Nat} (hN : ¬ tOwn g A C ∧ Sv.ownBlock ≠ some C ∧ ∀ k, Sv.ownBlock = some k → ¬ tOwn g A k) (hk1 : Keep (tOwn g A) w w1)
    (hb1 : Blk w1 C 93 #[.pointer (some ⟨g, 0, none⟩), qo.1, qo.2.1, Sv, qo.2.2]) (ht1 : Tab w1 g A c xs' p) (o : Obj) (hown2 : w2.ownsRow 0 3 1 v2 (ps.length + 1) (szs ps ++ [.int .i64 ((p : Nat) : Int)])) (hg2 : (w1.alloc o).grownBy w2 Sv.ownBlock)
    (hv : v2.ownBlock = Sv.ownBlock ∨ v2.ownBlock = some (w1.alloc o).heap.size) :
    OutDone w (w2.setCell ⟨C, 3, none⟩ v2) C g A Sv xs' p (ps ++ [p]) qo ∧ w2.cell? ⟨C, 3, none⟩ = some Sv ∧ w2.frozen? ⟨C, 3, none⟩ = false ∧ C < w2.heap.size := by
  have hba : Below w1.heap.size w1 (w1.alloc o) := (Below.refl _ _).alloc (Nat.le_refl _) _
  have k1 : Keep (fun k => Sv.ownBlock = some k) w1 w2 := (Keep.of_below (S := fun k => Sv.ownBlock = some k) hba).grown hg2 fun k hk => .inl hk
  have hb2 : Blk w2 C 93 #[.pointer (some ⟨g, 0, none⟩), qo.1, qo.2.1, Sv, qo.2.2] := hb1.keep k1 hN.2.1
  have ht2 : Tab w2 g A c xs' p := ht1.keep k1 fun k hk hs => hN.2.2 k hs hk
  have k3 : Keep (fun k => k = C) w2 (w2.setCell ⟨C, 3, none⟩ v2) := (Keep.refl (fun k => k = C) w2).setCell (p := ⟨C, 3, none⟩) (.inl rfl) v2
  have hfresh : ∀ k, v2.ownBlock = some k → Sv.ownBlock = some k ∨ w1.heap.size ≤ k := by
    intro k hk
    rcases hv with h | h
    · exact .inl (by rw [← h]; exact hk)
    · rw [h] at hk
      cases hk
      exact .inr (by simp)
  have hne2 : v2.ownBlock ≠ some C := fun e => by
    rcases hfresh C e with h | h
    · exact hN.2.1 h
    · have := hb1.lt
      omega
  refine ⟨⟨A, c, v2, ⟨?_, ht2.keep k3 fun k hk he => hN.1 (he ▸ hk), ?_⟩, ?_, ?_⟩, hb2.cell 3, hb2.frozen 3, hb2.lt⟩
  · have := hb2.set_ 3 v2
    simpa using this
  · have e1 : szs (ps ++ [p]) = szs ps ++ [.int .i64 ((p : Nat) : Int)] := by rw [szs_append]; rfl
    rw [e1, List.length_append]
    exact ownRow_keep hown2 k3 fun k hk he => hne2 (he ▸ hk)
  · exact ((hk1.mono (T := oOwn C g A Sv) fun i hi => .inr (.inl hi)).trans k1 fun i hi => .inl (.inr (.inr hi))).trans k3 fun i hi => .inl (.inl hi)
  · rintro k (rfl | hk | hk)
    · exact .inl (.inl rfl)
    · exact .inl (.inr (.inl hk))
    · rcases hfresh k hk with h | h
      · exact .inl (.inr (.inr h))
      · exact .inr (Nat.le_trans hk1.size h)

set_option maxRecDepth 100000 in
set_option maxHeartbeats 2000000 in
theorem cresize_yes {w : World} {C g : Nat} {A : Option Addr} {c : Nat} {Sv : Value} {xs : List Fld} {mx : Nat} {ps : List Nat} (H : COut w C g A c Sv xs mx ps qo) (p : Nat) (hp : p ≤ 4096) (hl : ps.length ≤ 1000000) :
    Calls Tryz.prog 280 #[.pointer (some ⟨C, 0, none⟩), .int .i64 (p : Int)] w fun e w' => e = .returned .nilIface ∧ OutDone w w' C g A Sv (shr p xs) p (ps ++ [p]) qo := by
  obtain ⟨i0, hi, hz0, hz1, hz2⟩ := info_parts int_info
  have HI := Lib.hid hi
  have HZ0 := Lib.hid hz0
  have HZ1 := Lib.hid hz1
  have HZ2 := Lib.hid hz2
  have HN := Lib.hid H.ne
  have HLT := Lib.hid H.lt
  obtain ⟨hb, ht, hr⟩ := H
  have c0 := hb.cell 0
  have c3 := hb.cell 3
  have HB := Lib.hid hb
  have HT := Lib.hid ht
  have HR := Lib.hid hr
  clear hi hz0 hz1 hz2 hb ht hr
  go_enter Tryz.func280, Tryz.ntmps280
  go_wp2_with fail
  refine (resize_yes HT.out p hp).mono ?_
  rintro e w1 ⟨rfl, hT1, hk1⟩
  have hbk1 := HB.out.keep hk1 HN.out.1
  have hr1 := ownRow_keep HR.out hk1 HN.out.2.2
  have c3 := hbk1.cell 3
  have f3 := hbk1.frozen 3
  have hlt := hbk1.lt
  have HB1 := Lib.hid hbk1
  have HR1 := Lib.hid hr1
  have HT1 := Lib.hid hT1
  have HK1 := Lib.hid hk1
  have hra : (w1.alloc (.cells #[.int .i64 ((p : Nat) : Int)] 3)).ownsRow 0 3 1 Sv ps.length (szs ps) := hr1.alloc _
  have HRA := Lib.hid hra
  clear hbk1 hr1 hT1 hk1 c0 hra
  go_wp2_with (at_builtin; refine wpList_append_any _ rfl _ _ 58 rfl 0 3 i0 (.int .i64 0) 1 8 Tryz.underlying58 HI.out HZ0.out HZ1.out HZ2.out rfl (by decide) _ _ _ rfl HRA.out _ (some ⟨w1.heap.size, 0, none⟩) 1 1 [.int .i64 ((p : Nat) : Int)] rfl ⟨rfl, fun _ => ⟨_, rfl, by simp; exact Nat.lt_succ_self _, cell_one_new _ _ _⟩⟩ (by simp [Value.oneCell']) (by unfold maxLen; omega) (by omega) (Nat.zero_le _) ?_; intro v2 w2 hown2 hg2 hv2; obtain ⟨A2, c2, rfl⟩ := own_slice hown2; have hend := cres_end HN.out HK1.out HB1.out HT1.out _ hown2 hg2 hv2; have c3 := hend.2.1; have f3 := hend.2.2.1; have hlt := hend.2.2.2; have HEND := Lib.hid hend.1; clear hend)
  go_ret
  exact ⟨rfl, HEND.out⟩
end Go.Proofs.YtbgnggkgmeagkaaGreatDoor
namespace Go.Proofs.YtbgnggkgmeagkaaGreatDoor

theorem wt_take_mono (xs : List Fld) {a b : Nat} (h : a ≤ b) : wt (xs.take a) ≤ wt (xs.take b) := by
  have h1 := wt_take_le (xs.take b) a
  rwa [List.take_take, Nat.min_eq_left h] at h1
theorem shrN_is {most : Nat} {xs : List Fld} {m : Nat} : ∀ {n : Nat}, m ≤ n → wt (xs.take m) ≤ most → (m = n ∨ ¬ wt (xs.take (m + 1)) ≤ most) → shrN most xs n = m := by
  intro n
  induction n with
  | zero => intro h _ _; simp [shrN]; omega
  | succ n ih =>
    intro h h1 h2
    by_cases he : m = n + 1
    · subst he
      exact shrN_stay h1
    · have h3 := h2.resolve_left he
      have h4 := wt_take_mono xs (show m + 1 ≤ n + 1 by omega)
      rw [shrN_go (by omega)]
      exact ih (by omega) h1 (.inr h3)
theorem shrN_top (most : Nat) (xs : List Fld) (n : Nat) : shrN most xs n = n ∨ ¬ wt (xs.take (shrN most xs n + 1)) ≤ most := by
  induction n with
  | zero => left; rfl
  | succ n ih =>
    by_cases h : wt (xs.take (n + 1)) ≤ most
    · left; exact shrN_stay h
    · right
      rw [shrN_go h]
      rcases ih with ih | ih
      · rw [ih]; exact h
      · exact ih
theorem shr_shr (a b : Nat) (xs : List Fld) : shr a (shr b xs) = shr (min a b) xs := by
  obtain ⟨nb, hnb⟩ : ∃ nb, shrN b xs xs.length = nb := ⟨_, rfl⟩
  have hb1 : nb ≤ xs.length := by rw [← hnb]; exact shrN_le _ _ _
  have hb2 : wt (xs.take nb) ≤ b := by rw [← hnb]; exact shrN_wt _ _ _
  have hb3 : nb = xs.length ∨ ¬ wt (xs.take (nb + 1)) ≤ b := by rw [← hnb]; exact shrN_top _ _ _
  have e1 : shr b xs = xs.take nb := by unfold shr; rw [hnb]
  have hl : (xs.take nb).length = nb := by rw [List.length_take]; omega
  obtain ⟨na, hna⟩ : ∃ na, shrN a (xs.take nb) nb = na := ⟨_, rfl⟩
  have ha1 : na ≤ nb := by rw [← hna]; exact shrN_le _ _ _
  have ha2 : wt ((xs.take nb).take na) ≤ a := by rw [← hna]; exact shrN_wt _ _ _
  have ha3 : na = nb ∨ ¬ wt ((xs.take nb).take (na + 1)) ≤ a := by rw [← hna]; exact shrN_top _ _ _
  rw [List.take_take, Nat.min_eq_left ha1] at ha2
  have key : shrN (min a b) xs xs.length = na := by
    refine shrN_is (by omega) ?_ ?_
    · have := wt_take_mono xs ha1
      omega
    · by_cases h : na = nb
      · subst h
        rcases hb3 with h3 | h3
        · exact .inl h3
        · exact .inr (by omega)
      · have h4 := ha3.resolve_left h
        rw [List.take_take, Nat.min_eq_left (by omega)] at h4
        exact .inr (by omega)
  rw [e1]
  unfold shr
  rw [hl, hna, key, List.take_take, Nat.min_eq_left ha1]

/-! ### sizes -/
/-- What a table comes to, behind sizes. -/
def settle (ps : List Nat) (ys : List Fld) (my : Nat) : List Fld × Nat :=
  match ps with
  | [] => (ys, my)
  | p :: r => (shr (leastP p r) ys, (p :: r).getLast (by simp))
theorem foldl_min_snoc (p q : Nat) (r : List Nat) : leastP p (r ++ [q]) = min (leastP p r) q := by simp [leastP]
theorem settle_snoc (ps : List Nat) (q : Nat) (ys : List Fld) (my : Nat) : settle (ps ++ [q]) ys my = (shr q (settle ps ys my).1, q) := by
  cases ps with
  | nil => simp [settle, leastP]
  | cons p r =>
    simp only [settle, List.cons_append, foldl_min_snoc, shr_shr]
    rw [Nat.min_comm q]
    congr 1
    exact List.getLast_concat (l := p :: r) (a := q) ..
theorem leastP_le : ∀ (r : List Nat) (p : Nat), leastP p r ≤ p ∧ ∀ q ∈ r, leastP p r ≤ q := by
  intro r
  induction r with
  | nil => intro p; simp [leastP]
  | cons q r ih =>
    intro p
    have e : leastP p (q :: r) = leastP (min p q) r := rfl
    rw [e]
    obtain ⟨h1, h2⟩ := ih (min p q)
    refine ⟨by omega, fun x hx => ?_⟩
    rcases List.mem_cons.1 hx with rfl | hx
    · omega
    · exact h2 x hx
theorem leastP_last (p : Nat) (r : List Nat) : leastP p r ≤ (p :: r).getLast (by simp) := by
  have h := leastP_le r p
  have hm := List.getLast_mem (l := p :: r) (by simp)
  rcases List.mem_cons.1 hm with e | hm
  · rw [e]; exact h.1
  · exact h.2 _ hm

theorem putL_nat (n t f : Nat) (ht : 1 ≤ t) (ht8 : t ≤ 8) (hn : n ≤ 2147483647) (hf : f % 2 ^ t = 0) (hf2 : f ≤ 255) : putL (n : Int) (t : Int) (f : Int) = putN n t f := by
  have hk : putOk (n : Int) (t : Int) (f : Int) := by
    refine ⟨by omega, by omega, by omega, by omega, by omega, by omega, ?_⟩
    rw [Int.toNat_natCast]
    have e : ((2 : Int) ^ t) = ((2 ^ t : Nat) : Int) := by simp
    rw [e]
    omega
  rw [putL, if_pos hk, Int.toNat_natCast, Int.toNat_natCast, Int.toNat_natCast]
theorem putL7 (n : Nat) (hn : n ≤ 2147483647) : putL (n : Int) 7 128 = putN n 7 128 := putL_nat n 7 128 (by omega) (by omega) hn (by decide) (by omega)
theorem putL6 (n : Nat) (hn : n ≤ 2147483647) : putL (n : Int) 6 64 = putN n 6 64 := putL_nat n 6 64 (by omega) (by omega) hn (by decide) (by omega)
theorem heard_size (most : Nat) (ys : List Fld) (my p : Nat) (rest : List UInt8) (hp : p ≤ most) (hm : most ≤ 4096) :
    heard most ys my [] (putL (p : Nat) 5 32 ++ rest) = heard most (shr p ys) p [] rest := by
  have e := putL_nat p 5 32 (by omega) (by omega) (by omega) (by decide) (by omega)
  obtain ⟨g1, g2, g3, g4⟩ := getV_high p 5 32 rest (by omega) (by omega) (by omega) (by decide) (by omega)
  have e' : putL (p : Nat) 5 32 = putN p 5 32 := e
  rw [e']
  have hS : heardS most ys my [] (putN p 5 32 ++ rest) = ⟨0, shr p ys, p, [], (putN p 5 32).length⟩ := by
    have g1' : getV (putN p 5 32 ++ rest) 5 = (p, (putN p 5 32).length, 0) := g1
    unfold heardS
    rw [if_neg (by omega), if_neg (by omega), if_pos (by omega), g1']
    simp only
    rw [if_neg (by simp), if_neg (by omega), if_neg (by simp)]
  have h0 : putN p 5 32 ++ rest ≠ [] := by simp [g4]
  rw [heard_next h0 (by rw [hS]), hS]
  simp only [List.drop_left]
theorem heard_saidP (most : Nat) (ys : List Fld) (my : Nat) (ps : List Nat) (rest : List UInt8) (hp : ∀ p ∈ ps, p ≤ most) (hm : most ≤ 4096) :
    heard most ys my [] (saidP ps ++ rest) = heard most (settle ps ys my).1 (settle ps ys my).2 [] rest := by
  cases ps with
  | nil => rfl
  | cons p r =>
    have hl := leastP_le r p
    have hll := leastP_last p r
    have hlast : (p :: r).getLast (by simp) ≤ most := hp _ (List.getLast_mem _)
    have hp0 := hp p (by simp)
    simp only [saidP, settle]
    generalize (p :: r).getLast (by simp) = q at *
    generalize leastP p r = m at *
    rw [List.append_assoc, heard_size most ys my m _ (by omega) hm]
    by_cases h : m < q
    · rw [if_pos h, heard_size most (shr m ys) m q rest hlast hm, shr_of_le (show wt (shr m ys) ≤ q by have := wt_shr m ys; omega)]
    · rw [if_neg h, List.nil_append, show q = m by omega]

/-! ### fields -/
theorem tAll_at {p : Fld → Bool} {xs : List Fld} (h : fnd p (tAll xs) ≠ 0) : p ((tAll xs).getD (fnd p (tAll xs) - 1) ([], [])) = true ∧ fnd p (tAll xs) ≤ 12 + xs.length := by
  obtain ⟨hk, hp⟩ := fnd_some h
  refine ⟨?_, by rw [← tAll_len]; omega⟩
  rw [List.getD_eq_getElem?_getD, List.getElem?_eq_getElem hk, Option.getD_some]
  exact hp
theorem litV_said (xs : List Fld) (f : Fld) (rest : List UInt8) (hx : xs.length ≤ 4096) (h1 : f.1.length ≤ 400) (h2 : f.2.length ≤ 400) :
    litV xs (putN (fnd (isN f) (tAll xs)) 6 64 ++ (if fnd (isN f) (tAll xs) = 0 then txtL f.1 else []) ++ txtL f.2 ++ rest) 6 =
      (f, (putN (fnd (isN f) (tAll xs)) 6 64 ++ (if fnd (isN f) (tAll xs) = 0 then txtL f.1 else []) ++ txtL f.2).length, 0) := by
  have hle := fnd_le (isN f) (tAll xs)
  rw [tAll_len] at hle
  have hat := @tAll_at (isN f) xs
  generalize fnd (isN f) (tAll xs) = n at *
  obtain ⟨g1, _, _, _⟩ := getV_high n 6 64 ((if n = 0 then txtL f.1 else []) ++ (txtL f.2 ++ rest)) (by omega) (by omega) (by omega) (by decide) (by omega)
  have e : putN n 6 64 ++ (if n = 0 then txtL f.1 else []) ++ txtL f.2 ++ rest = putN n 6 64 ++ ((if n = 0 then txtL f.1 else []) ++ (txtL f.2 ++ rest)) := by
    simp only [List.append_assoc]
  have g1' : getV (putN n 6 64 ++ ((if n = 0 then txtL f.1 else []) ++ (txtL f.2 ++ rest))) 6 = (n, (putN n 6 64).length, 0) := g1
  rw [e]
  unfold litV
  simp only [g1', List.drop_left]
  rw [if_neg (by simp), if_neg (by omega)]
  by_cases hn : n = 0
  · have hr1 := readT_txt f.1 (txtL f.2 ++ rest) h1
    have hr2 := readT_txt f.2 rest h2
    have hd : (putN n 6 64 ++ (txtL f.1 ++ (txtL f.2 ++ rest))).drop ((putN n 6 64).length + (txtL f.1).length) = txtL f.2 ++ rest := by
      rw [← List.length_append, ← List.append_assoc, List.drop_left]
    rw [if_neg (by omega), if_pos hn, hr1]
    simp only [hd, hr2]
    rw [if_neg (by simp), if_neg (by simp)]
    simp only [List.length_append]
  · have hr := readT_txt f.2 rest h2
    obtain ⟨hat, _⟩ := hat hn
    rw [if_pos (by omega), if_neg hn, List.nil_append, hr]
    simp only
    rw [if_neg (by simp)]
    have hname : ((tAll xs).getD (n - 1) ([], [])).1 = f.1 := by simpa [isN] using hat
    rw [hname]
    simp only [List.length_append, List.append_nil]
theorem saidF_ne (mx : Nat) (xs : List Fld) (f : Fld) (hx : xs.length ≤ 4096) : saidF mx xs f ≠ [] := by
  have hle1 := fnd_le (isF f) (tAll xs)
  have hle2 := fnd_le (isN f) (tAll xs)
  rw [tAll_len] at hle1 hle2
  unfold saidF
  split
  · rw [putL7 _ (by omega)]
    exact (getV_high _ 7 128 [] (by omega) (by omega) (by omega) (by decide) (by omega)).2.2.2
  · rw [putL6 _ (by omega)]
    have := (getV_high (fnd (isN f) (tAll xs)) 6 64 [] (by omega) (by omega) (by omega) (by decide) (by omega)).2.2.2
    simp [this]
theorem heardS_said (most mx : Nat) (xs l : List Fld) (f : Fld) (rest : List UInt8) (hx : xs.length ≤ 4096) (h1 : f.1.length ≤ 400) (h2 : f.2.length ≤ 400) :
    heardS most xs mx l (saidF mx xs f ++ rest) = pushF (nextF mx xs f) mx l f (saidF mx xs f).length := by
  have hle1 := fnd_le (isF f) (tAll xs)
  have hle2 := fnd_le (isN f) (tAll xs)
  rw [tAll_len] at hle1 hle2
  by_cases hw : fnd (isF f) (tAll xs) ≠ 0
  · obtain ⟨hat, _⟩ := tAll_at hw
    have hf : (tAll xs).getD (fnd (isF f) (tAll xs) - 1) ([], []) = f := by simpa [isF] using hat
    have e : saidF mx xs f = putN (fnd (isF f) (tAll xs)) 7 128 := by
      rw [saidF, if_pos hw]
      exact putL7 _ (by omega)
    obtain ⟨g1, g2, g3, _⟩ := getV_high (fnd (isF f) (tAll xs)) 7 128 rest (by omega) (by omega) (by omega) (by decide) (by omega)
    have g1' : getV (putN (fnd (isF f) (tAll xs)) 7 128 ++ rest) 7 = (fnd (isF f) (tAll xs), (putN (fnd (isF f) (tAll xs)) 7 128).length, 0) := g1
    rw [e, nextF, if_pos hw]
    unfold heardS
    rw [if_pos (by omega), g1']
    simp only
    rw [if_neg (by simp), if_neg (by omega), hf]
  · have e : saidF mx xs f = putN (fnd (isN f) (tAll xs)) 6 64 ++ (if fnd (isN f) (tAll xs) = 0 then txtL f.1 else []) ++ txtL f.2 := by
      rw [saidF, if_neg hw]
      rw [putL6 _ (by omega)]
    have hl := litV_said xs f rest hx h1 h2
    obtain ⟨_, g2, g3, _⟩ := getV_high (fnd (isN f) (tAll xs)) 6 64 ((if fnd (isN f) (tAll xs) = 0 then txtL f.1 else []) ++ (txtL f.2 ++ rest)) (by omega) (by omega) (by omega) (by decide) (by omega)
    rw [← e] at hl
    have e2 : saidF mx xs f ++ rest = putN (fnd (isN f) (tAll xs)) 6 64 ++ ((if fnd (isN f) (tAll xs) = 0 then txtL f.1 else []) ++ (txtL f.2 ++ rest)) := by
      rw [e]; simp only [List.append_assoc]
    rw [← e2] at g2 g3
    unfold heardS
    rw [if_neg (by omega), if_pos (by omega), hl]
    simp only
    rw [if_neg (by simp), nextF, if_neg hw]
theorem tooMuch_mono {a b : List Fld} (h : tooMuch (a ++ b) = false) : tooMuch a = false := by
  simp only [tooMuch, Bool.or_eq_false_iff, decide_eq_false_iff_not, List.length_append, wt_append] at h ⊢
  omega
theorem wt_nextF (mx : Nat) (xs : List Fld) (f : Fld) (h : wt xs ≤ mx) : wt (nextF mx xs f) ≤ mx := by
  unfold nextF
  split
  · exact h
  · exact wt_tAdd mx xs f
theorem heard_said (most mx : Nat) (hm : mx ≤ 4096) : ∀ (l : List Fld) (xs acc : List Fld), wt xs ≤ mx → tooMuch (acc ++ l) = false → tooLong l = false →
    heard most xs mx acc (saidL mx xs l) = ⟨0, nextL mx xs l, mx, acc ++ l, 0⟩ := by
  intro l
  induction l with
  | nil =>
    intro xs acc _ _ _
    simp only [saidL, nextL, List.append_nil]
    exact heard_nil _ _ _ _
  | cons f l ih =>
    intro xs acc hx ht hl
    have hxl := wt_len xs
    simp only [tooLong, List.any_cons, Bool.or_eq_false_iff, decide_eq_false_iff_not] at hl
    have hs := heardS_said most mx xs acc f (saidL mx (nextF mx xs f) l) (by omega) (by omega) (by omega)
    have ht2 : tooMuch (acc ++ [f]) = false := by
      refine tooMuch_mono (b := l) ?_
      rw [List.append_assoc]
      exact ht
    rw [pushF, if_neg (by simp [ht2])] at hs
    have h0 : saidF mx xs f ++ saidL mx (nextF mx xs f) l ≠ [] := by simp [saidF_ne mx xs f (by omega)]
    simp only [saidL, nextL]
    rw [heard_next h0 (by rw [hs]), hs]
    simp only [List.drop_left]
    rw [ih (nextF mx xs f) (acc ++ [f]) (wt_nextF mx xs f hx) (by rw [List.append_assoc]; exact ht) hl.2]
    simp

/-- The two coders, one that says, one that hears: between two lists. -/
structure Alike (max : Nat) (xs : List Fld) (mx : Nat) (ps : List Nat) (ys : List Fld) (my : Nat) : Prop where
  mmax : max ≤ 4096
  mmx : mx ≤ max
  mmy : my ≤ max
  wx : wt xs ≤ mx
  wy : wt ys ≤ my
  pmax : ∀ p ∈ ps, p ≤ max
  rel : (xs, mx) = settle ps ys my
theorem Alike.new (max : Nat) (h : max ≤ 4096) : Alike max [] max [] [] max :=
  ⟨h, Nat.le_refl _, Nat.le_refl _, by simp [wt], by simp [wt], by simp, rfl⟩
theorem Alike.resize {max mx my : Nat} {xs ys : List Fld} {ps : List Nat} (h : Alike max xs mx ps ys my) (p : Nat) (hp : p ≤ max) : Alike max (shr p xs) p (ps ++ [p]) ys my :=
  ⟨h.mmax, hp, h.mmy, wt_shr _ _, h.wy, by
    intro q hq
    rcases List.mem_append.1 hq with hq | hq
    · exact h.pmax q hq
    · rw [List.mem_singleton.1 hq]; exact hp, by rw [settle_snoc, ← h.rel]⟩
theorem Alike.said {max mx my : Nat} {xs ys : List Fld} {ps : List Nat} (h : Alike max xs mx ps ys my) (l : List Fld) (hl : saidE l = 0) :
    heard max ys my [] (saidP ps ++ saidL mx xs l) = ⟨0, nextL mx xs l, mx, l, 0⟩ ∧ Alike max (nextL mx xs l) mx [] (nextL mx xs l) mx := by
  have hc : tooMuch l = false ∧ tooLong l = false := by
    unfold saidE at hl
    split at hl
    · simp at hl
    · rename_i h1
      simpa using h1
  have hmm := h.mmax
  have hmx := h.mmx
  constructor
  · rw [heard_saidP max ys my ps _ h.pmax hmm, ← h.rel]
    exact heard_said max mx (by omega) l xs [] h.wx hc.1 hc.2
  · have hw : ∀ (l xs : List Fld), wt xs ≤ mx → wt (nextL mx xs l) ≤ mx := by
      intro l
      induction l with
      | nil => intro xs hx; exact hx
      | cons f l ih => intro xs hx; exact ih _ (wt_nextF mx xs f hx)
    exact ⟨hmm, hmx, hmx, hw l xs h.wx, hw l xs h.wx, by simp, rfl⟩
end Go.Proofs.YtbgnggkgmeagkaaGreatDoor
