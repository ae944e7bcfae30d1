/-
  slices.Insert at []api.Field, one field at the head, into a row of the call's own. Condition: the row's length.
-/
import Derived.Test.YtkbbkamnmdeagaaDoorMHeadPlays08
import Derived.Test.YtkbbkamnmdeagaaDoorMHeadPlays10
import Derived.Lib.Overlaps
import Derived.Lib.AppendZerosOnto
import Derived.Laws.Externs
import Derived.Laws.CopyRow
namespace Go.Proofs.YtkbbkamnmdeagaaDoor
open Go.RowKit
attribute [local go_sem ↓] Go.wp_at_zero Go.wp_at_succ

/-! ### copy into a row that is known whole, whatever an element's cells -/
theorem run_copy_rowK {P : Program} (w : World) (dT sT ty elem : TypeId) (size : Nat) (g o dLen dCap : Nat) (a : Addr) (sLen sCap : Nat) (cur : Array Value) (t : TypeId) (cs : List Value)
    (hu : P.underlying dT = some (.slice elem)) (hs : (P.info? elem).map (·.size) = some size)
    (hg : w.heap[g]? = some (.cells cur t (0, 0))) (hn : cs.length = Nat.min sLen dLen * size)
    (hsrc : ∀ j v, cs[j]? = some v → w.cell? (a.add j) = some v) (hfit : o + cs.length ≤ cur.size) (h1 : ∀ v ∈ cs, v.oneCell' = true) :
    (Builtin.copy_ #[dT, sT] ty #[.slice (some ⟨g, o, none⟩) dLen dCap, .slice (some a) sLen sCap]).run P w =
      .ok (goInt (Nat.min sLen dLen)) (w.setRow g (cur.toList.take o ++ cs ++ cur.toList.drop (o + cs.length)).toArray) := by
  have hl := run_firstCells_some (P := P) w size (Nat.min sLen dLen) a sLen sCap cs hn hsrc
  have hst := run_storeCells_at P g o t cs 0 cur w hg (by simpa using hfit) h1
  cases hq : P.info? elem with
  | none => simp [hq] at hs
  | some i =>
    have hi : i.size = size := by simpa [hq] using hs
    simp [Builtin.copy_, run_underlying hu, Builtin.lenOf, sizeOf, typeInfo, hq, hi, hl, hst]
theorem wp_copy_runK {P : Program} (w : World) {o : Oper} {a : Act} {K : Act → World → Prop} {Q : Exit → Act → World → Prop} (d s : Operand) (t t' : TypeId)
    (ho : o.op = .call { callee := .builtin .copy, args := #[d, s], argTypes := #[t, t'] }) (v u : Value) (hd : a.eval d = v) (hs : a.eval s = u) {v' : Value} {w' : World}
    (hr : (Builtin.copy_ #[t, t'] o.type #[v, u]).run P w = .ok v' w') (h : K (a.put o.dst v') w') : o.wp P a w K Q := by
  unfold Oper.wp execOp
  simp only [ho, resolve, invoke, builtin, Sem.run_bind, Sem.run_pure, Result.andThen_ok, List.map_toArray, List.map_cons, List.map_nil, hd, hs, hr]
  exact h
theorem wpList_copy_runK {P : Program} (w : World) {ops : Array Oper} {rest : List Oper} {o : Oper} {a : Act} {Q : Exit → Act → World → Prop} (hgd : o.guard = none) (d s : Operand) (t t' : TypeId)
    (ho : o.op = .call { callee := .builtin .copy, args := #[d, s], argTypes := #[t, t'] }) (v u : Value) (hd : a.eval d = v) (hs : a.eval s = u) {v' : Value} {w' : World}
    (hr : (Builtin.copy_ #[t, t'] o.type #[v, u]).run P w = .ok v' w') (h : wpList P ops Q rest (a.put o.dst v') w') : wpList P ops Q (o :: rest) a w :=
  wpList_plain hgd fun _ hK => wp_copy_runK w d s t t' ho v u hd hs hr (hK _ _ h)
theorem step_copy_runK {P : Program} {ops : Array Oper} {o : Oper} {a : Act} {w : World} {K : Act → World → Prop} {Q : Exit → Act → World → Prop} {E : Prop}
    (hg : o.guard = none) (d x : Operand) (dT sT : TypeId) (hop : o.op = Op.call { callee := Callee.builtin Builtin.copy, args := #[d, x], argTypes := #[dT, sT] })
    (v u : Value) (hd : a.eval d = v) (hx : a.eval x = u) {v' : Value} {w' : World} (hr : (Builtin.copy_ #[dT, sT] o.type #[v, u]).run P w = .ok v' w') (hK : K (a.put o.dst v') w') :
    if Region.wanted o (yielded ops a.tmps) = true then Oper.wp P o a w K Q else E := by
  have hw : Region.wanted o (yielded ops a.tmps) = true := by simp [Region.wanted, hg]
  rw [if_pos hw]
  exact wp_copy_runK w d x dT sT hop v u hd hx hr hK

theorem fld_size : (Tryd.prog.info? 86).map (·.size) = some 2 := by kernel_rfl
theorem fld_sizeOf (w : World) : (Go.sizeOf 86).run Tryd.prog w = .ok 2 w := by kernel_rfl
theorem overlaps_run (args : Array Value) (w : World) : (callFunc 99 args).run Tryd.prog w = ((Extern.SlicesOverlaps.overlaps #[76, 76] #[4] args).run Tryd.prog w).andThen fun v w' => .ok (.value v) w' :=
  run_callFunc_extern Tryd.func99 (by kernel_rfl) (by kernel_rfl) (by kernel_rfl) (by kernel_rfl) args w

/-- What the insertion leaves: a row of the call's own that begins with the field. -/
def Inserted (w w' : World) (A : Option Addr) (v : Value) (f : Fld) (xs : List Fld) : Prop :=
  ∃ A' c', v = .slice A' (xs.length + 1) c' ∧ w'.ownsRow 0 86 2 (.slice A' (xs.length + 1) c') (xs.length + 1) (fvs (f :: xs)) ∧ Keep (fun k => ∃ a, A = some a ∧ k = a.block) w w' ∧
    (∀ a, A' = some a → (∃ b, A = some b ∧ a.block = b.block) ∨ w.heap.size ≤ a.block)

set_option maxRecDepth 100000 in
set_option maxHeartbeats 4000000 in
theorem insert_nil {w : World} {A : Option Addr} {c : Nat} (h : w.ownsRow 0 86 2 (.slice A 0 c) 0 (fvs [])) (f : Fld) (vb : Nat) (hv : Blk w vb 86 #[.string ⟨f.1.toArray⟩, .string ⟨f.2.toArray⟩]) :
    Calls Tryd.prog 85 #[.slice A 0 c, .int .i64 0, .slice (some ⟨vb, 0, none⟩) 1 1] w fun e w' => ∃ v, e = .returned v ∧ Inserted w w' A v f [] := by
  obtain ⟨i0, hi, hz0, hz1, hz2⟩ := info_parts fld_info
  have hc : c ≤ 9223372036854775807 := by
    rcases h.2 with ⟨he, _⟩ | ⟨_, cap, cur, he, _, _, _, hm, _⟩
    · injection he with _ _ hc; omega
    · injection he with _ _ hc; unfold maxLen at hm; omega
  have hr : Reads w (vb + 1) 2 (some ⟨vb, 0, none⟩) 1 (fv f) := by
    refine ⟨rfl, fun _ => ⟨_, rfl, by simp, fun j u hu => ?_⟩⟩
    rw [Addr.add_lit, Nat.zero_add, hv.cell]
    simpa [fv] using hu
  have h1 : ∀ u ∈ fv f, u.oneCell' = true := by
    intro u hu
    simp only [fv, List.mem_cons, List.not_mem_nil, or_false] at hu
    rcases hu with rfl | rfl <;> rfl
  have HH := Lib.hid h
  have HI := Lib.hid hi
  have HZ0 := Lib.hid hz0
  have HZ1 := Lib.hid hz1
  have HZ2 := Lib.hid hz2
  clear hi hz0 hz1 hz2 hv h
  go_enter Tryd.func85, Tryd.ntmps85
  go_wp2_with (at_builtin; refine wpList_append_any _ rfl _ _ 76 rfl 0 86 i0 (.agg #[.string ⟨#[]⟩, .string ⟨#[]⟩]) 2 32 Tryd.underlying76 HI.out HZ0.out HZ1.out HZ2.out rfl (by decide) (.slice A 0 c) 0 (fvs []) rfl HH.out (vb + 1) (some ⟨vb, 0, none⟩) 1 1 (fv f) rfl hr h1 (by unfold maxLen; omega) (by omega) (Nat.zero_le _) ?_; intro v2 w2 hown2 hg2 hat2)
  go_ret
  obtain ⟨g2, cap2, hv2, _, _⟩ := hown2.form (by omega)
  subst hv2
  refine ⟨_, rfl, some ⟨g2, 0, none⟩, cap2, by rfl, hown2, (Keep.refl _ _).grown hg2 fun k hk => ?_, fun a ha => ?_⟩
  · cases A with
    | none => simp [Value.ownBlock] at hk
    | some a => exact .inl ⟨a, rfl, by simpa [Value.ownBlock] using hk.symm⟩
  · cases ha
    rcases hat2 with hat2 | hat2
    · cases A with
      | none => simp [Value.ownBlock] at hat2
      | some a => exact .inl ⟨a, rfl, by simpa [Value.ownBlock] using hat2⟩
    · have he2 : g2 = w.heap.size := by simpa [Value.ownBlock] using hat2
      exact .inr (Nat.le_of_eq he2.symm)

theorem Keep.setRow {S : Nat → Prop} {w w1 : World} (h : Keep S w w1) {g : Nat} (hg : S g ∨ w.heap.size ≤ g) (cs : Array Value) : Keep S w (w1.setRow g cs) :=
  ⟨h.os, h.tape, h.output, by simpa [World.setRow] using h.size, fun k hk hS => (setRow_other w1 g k cs (by rintro rfl; rcases hg with h1 | h1; exact hS h1; omega)).trans (h.block k hk hS)⟩

set_option maxRecDepth 100000 in
set_option maxHeartbeats 4000000 in
theorem insert_room {w : World} {A : Option Addr} {c : Nat} {xs : List Fld} (h : w.ownsRow 0 86 2 (.slice A xs.length c) xs.length (fvs xs)) (hn0 : 0 < xs.length) (hroom : xs.length + 1 ≤ c) (hm : xs.length ≤ 1000) (f : Fld) (vb : Nat) (hv : Blk w vb 86 #[.string ⟨f.1.toArray⟩, .string ⟨f.2.toArray⟩]) (hne : ∀ a, A = some a → a.block ≠ vb) :
    Calls Tryd.prog 85 #[.slice A xs.length c, .int .i64 0, .slice (some ⟨vb, 0, none⟩) 1 1] w fun e w' => ∃ v, e = .returned v ∧ Inserted w w' A v f xs := by
  rcases h.2 with ⟨_, h0⟩ | ⟨g, cap, cur, he, _, hg, _, hcm, hsz, htk⟩
  · omega
  injection he with hA _ hcc
  subst hA
  subst hcc
  have hgv : vb ≠ g := fun e => hne _ rfl e.symm
  unfold maxLen at hcm
  obtain ⟨n, hn⟩ : ∃ n, xs.length = n := ⟨_, rfl⟩
  have hfl := fvs_length xs
  rw [hn] at hfl htk hn0 hroom hm ⊢
  have h1x := fvs_one xs
  have h1f : ∀ u ∈ fv f, u.oneCell' = true := by
    intro u hu
    simp only [fv, List.mem_cons, List.not_mem_nil, or_false] at hu
    rcases hu with rfl | rfl <;> rfl
  have hov : ∀ lb cb, (callFunc 99 #[.slice (some ⟨vb, 0, none⟩) 1 1, .slice (some ⟨g, 2, none⟩) lb cb]).run Tryd.prog w = .ok (.value (.bool false)) w := by
    intro lb cb
    rw [overlaps_run, Lib.run_overlaps_apart w 76 4 86 Tryd.underlying76 2 fld_sizeOf ⟨vb, 0, none⟩ ⟨g, 2, none⟩ 1 1 lb cb hgv 86 86 2 cur.size ?_ ?_ (by omega) (hv.frozen 0) (hv.frozen 2)]
    · rfl
    · unfold Blk at hv; simp [World.shape?, hv]
    · simp [World.shape?, hg]
  have hcell : ∀ j u, (fvs xs)[j]? = some u → w.cell? ((⟨g, 0, none⟩ : Addr).add j) = some u := h.cells rfl
  have hcp1 : ∀ ty dc sc, (Builtin.copy_ #[76, 76] ty #[.slice (some ⟨g, 2, none⟩) n dc, .slice (some ⟨g, 0, none⟩) (n + 1) sc]).run Tryd.prog w.drew = .ok (goInt n) (w.drew.setRow g (cur.toList.take 2 ++ fvs xs ++ cur.toList.drop (2 + (fvs xs).length)).toArray) := by
    intro ty dc sc
    have hmin : Nat.min (n + 1) n = n := by simp only [Nat.min_def]; split <;> omega
    have := run_copy_rowK (P := Tryd.prog) w.drew 76 76 ty 86 2 g 2 n dc ⟨g, 0, none⟩ (n + 1) sc cur 86 (fvs xs) Tryd.underlying76 fld_size hg (by rw [hmin]; exact hfl) hcell (by rw [hfl, hsz]; omega) h1x
    rw [hmin] at this
    exact this
  obtain ⟨C1, hC1⟩ : ∃ C1, (cur.toList.take 2 ++ fvs xs ++ cur.toList.drop (2 + (fvs xs).length)).toArray = C1 := ⟨_, rfl⟩
  rw [hC1] at hcp1
  obtain ⟨W1, hW1⟩ : ∃ W1, w.drew.setRow g C1 = W1 := ⟨_, rfl⟩
  have hg1 : W1.heap[g]? = some (.cells C1 86 (0, 0)) := by rw [← hW1]; exact setRow_heap w.drew g cur C1 _ _ hg
  have hv1 : Blk W1 vb 86 #[.string ⟨f.1.toArray⟩, .string ⟨f.2.toArray⟩] := by
    unfold Blk
    rw [← hW1, setRow_other w.drew g vb C1 hgv]
    exact hv
  have hC1s : C1.size = c * 2 := by
    rw [← hC1]
    simp only [List.size_toArray, List.length_append, List.length_take, List.length_drop, Array.length_toList]
    omega
  have hcp2 : ∀ ty dc, (Builtin.copy_ #[76, 76] ty #[.slice (some ⟨g, 0, none⟩) (n + 1) dc, .slice (some ⟨vb, 0, none⟩) 1 1]).run Tryd.prog W1 = .ok (goInt 1) (W1.setRow g (C1.toList.take 0 ++ fv f ++ C1.toList.drop (0 + (fv f).length)).toArray) := by
    intro ty dc
    have hmin : Nat.min 1 (n + 1) = 1 := by simp only [Nat.min_def]; split <;> omega
    have := run_copy_rowK (P := Tryd.prog) W1 76 76 ty 86 2 g 0 (n + 1) dc ⟨vb, 0, none⟩ 1 1 C1 86 (fv f) Tryd.underlying76 fld_size hg1 (by rw [hmin]; rfl) (fun j u hu => by
      rw [Addr.add_lit, Nat.zero_add, hv1.cell]
      simpa [fv] using hu) (by rw [hC1s]; simp [fv]; omega) h1f
    rw [hmin] at this
    exact this
  have hfin : Inserted w (W1.setRow g (C1.toList.take 0 ++ fv f ++ C1.toList.drop (0 + (fv f).length)).toArray) (some ⟨g, 0, none⟩) (.slice (some ⟨g, 0, none⟩) (n + 1) c) f xs := by
    refine ⟨some ⟨g, 0, none⟩, c, by rw [hn], ?_, ?_, fun a ha => .inl ⟨_, rfl, by cases ha; rfl⟩⟩
    · rw [hn]
      refine ⟨by rw [fvs_cons, List.length_append, hfl]; simp [fv]; omega, .inr ⟨g, c, _, rfl, Nat.zero_le _, setRow_heap W1 g C1 _ _ _ hg1, hroom, by unfold maxLen; omega, ?_, ?_⟩⟩
      · simp only [List.size_toArray, List.length_append, List.length_take, List.length_drop, Array.length_toList]
        simp [fv]
        omega
      · rw [List.toList_toArray, fvs_cons, ← hC1]
        have e2 : (cur.toList.take 2).length = 2 := by simp; omega
        simp only [List.take_zero, List.nil_append, List.toList_toArray, Nat.zero_add]
        have e3 : (fv f).length = 2 := rfl
        rw [e3, List.append_assoc, List.drop_append_of_le_length (by omega), List.drop_of_length_le (by omega), List.nil_append, ← List.append_assoc, List.take_append_of_le_length (by rw [List.length_append, e3, hfl]; omega), List.take_of_length_le (by rw [List.length_append, e3, hfl]; omega)]
    · rw [← hW1]
      exact (((Keep.refl _ _).drew).setRow (.inl ⟨_, rfl, rfl⟩) _).setRow (.inl ⟨_, rfl, rfl⟩) _
  obtain ⟨W2, hW2⟩ : ∃ W2, W1.setRow g (C1.toList.take 0 ++ fv f ++ C1.toList.drop (0 + (fv f).length)).toArray = W2 := ⟨_, rfl⟩
  rw [hW2] at hcp2 hfin
  rw [hW1] at hcp1
  have HF := Lib.hid hfin
  have hc1 : (1 : Int) ≤ (c : Int) := by omega
  have hc2 : ¬ (c = 1) := by omega
  have hc3 : ¬ (c = 0) := by omega
  have hn1 : decide ((c : Int) < (n : Int) + 1) = false := by simp; omega
  have hw1 : IntKind.i64.wrap 1 = 1 := by decide
  have hb1 : (1 : Int) ≤ (n : Int) + 1 := by omega
  have hb0 : (0 : Int) ≤ (n : Int) + 1 := by omega
  clear hfin hW2 hW1 hC1 hC1s hg1 hv1 hcell htk hsz hfl hn h1x h1f hv h hg
  go_enter Tryd.func85, Tryd.ntmps85
  go_wp2_with (simp only [hov])
  go_region_law (refine step_copy_runK rfl _ _ 76 76 rfl _ _ (by simp [Act.eval, Act.put]) (by simp [Act.eval, Act.put]) (hcp1 _ _ _) ?_)
  go_wp2_with (at_builtin; refine wpList_copy_runK _ rfl _ _ 76 76 rfl _ _ rfl rfl (hcp2 _ _) ?_)
  go_ret
  exact ⟨_, rfl, HF.out⟩

set_option maxRecDepth 100000 in
set_option maxHeartbeats 4000000 in
theorem insert_grow {w : World} {A : Option Addr} {c : Nat} {xs : List Fld} (h : w.ownsRow 0 86 2 (.slice A xs.length c) xs.length (fvs xs)) (hn0 : 0 < xs.length) (hroom : c < xs.length + 1) (hm : xs.length ≤ 1000) (f : Fld) (vb : Nat) (hv : Blk w vb 86 #[.string ⟨f.1.toArray⟩, .string ⟨f.2.toArray⟩]) :
    Calls Tryd.prog 85 #[.slice A xs.length c, .int .i64 0, .slice (some ⟨vb, 0, none⟩) 1 1] w fun e w' => ∃ v, e = .returned v ∧ Inserted w w' A v f xs := by
  obtain ⟨i0, hi, hz0, hz1, hz2⟩ := info_parts fld_info
  obtain ⟨g, cap, he, _, hlt⟩ := h.form hn0
  injection he with hA _ hcc
  subst hA
  subst hcc
  have hnc : xs.length ≤ c := by
    rcases h.2 with ⟨he, _⟩ | ⟨_, _, _, he, _, _, hh, _⟩
    · cases he
    · injection he with _ _ hcc; omega
  obtain ⟨n, hn⟩ : ∃ n, xs.length = n := ⟨_, rfl⟩
  have hfl := fvs_length xs
  have hcell : ∀ j u, (fvs xs)[j]? = some u → w.cell? ((⟨g, 0, none⟩ : Addr).add j) = some u := h.cells rfl
  rw [hn] at hfl hn0 hroom hm hnc ⊢
  have h1x := fvs_one xs
  have h1f : ∀ u ∈ fv f, u.oneCell' = true := by
    intro u hu
    simp only [fv, List.mem_cons, List.not_mem_nil, or_false] at hu
    rcases hu with rfl | rfl <;> rfl
  have hG := grownCap_ge w (n + 1) c 86
  have hG63 := grownCap_le_maxLen w (n + 1) c 86 (by unfold maxLen; omega)
  have hap0 := fun ty => Lib.run_append_grow_zeros (P := Tryd.prog) w 76 3 ty 86 i0 (.agg #[.string ⟨#[]⟩, .string ⟨#[]⟩]) .i64 .i64 Tryd.underlying76 Tryd.underlying3 hi hz0 (some ⟨g, 0, none⟩) 0 c [] (run_firstCells_some w.drew i0.size 0 ⟨g, 0, none⟩ 0 c [] (by simp) (fun j v hj => by simp at hj)) (n + 1) (by omega) (by omega) (by omega) (by omega) (by rw [hz2]; omega)
    (growslice_fits (by omega) (by rw [hz2]; omega))
  simp only [Nat.zero_add] at hap0
  obtain ⟨G, hGe⟩ : ∃ G, grownCap w (n + 1) c 86 = G := ⟨_, rfl⟩
  rw [hGe] at hG hG63 hap0
  obtain ⟨Z, hZ⟩ : ∃ Z, ([] : List Value).toArray ++ Builtin.zeroCells (.agg #[.string ⟨#[]⟩, .string ⟨#[]⟩] : Value).cells (n + 1) ++ Builtin.zeroCells (.agg #[.string ⟨#[]⟩, .string ⟨#[]⟩] : Value).cells (G - (n + 1)) = Z := ⟨_, rfl⟩
  have hZs : Z.size = G * 2 := by
    rw [← hZ, Array.size_append, Array.size_append, zeroCells_size, zeroCells_size]
    have : (.agg #[.string ⟨#[]⟩, .string ⟨#[]⟩] : Value).cells.size = 2 := by rfl
    rw [this]
    simp
    omega
  rw [hZ] at hap0
  obtain ⟨W0, hW0⟩ : ∃ W0, w.drew.alloc (.cells Z 86) = W0 := ⟨_, rfl⟩
  have hh0 : W0.heap[w.heap.size]? = some (.cells Z 86 (0, 0)) := by rw [← hW0]; exact heap_alloc_new w.drew _
  have hv0 : Blk W0 vb 86 #[.string ⟨f.1.toArray⟩, .string ⟨f.2.toArray⟩] := by rw [← hW0]; exact hv.drew.alloc _
  have hb0 : Below w.heap.size w W0 := by rw [← hW0]; exact ((Below.refl _ _).drew).alloc (Nat.le_refl _) _
  have hap : ∀ ty, (Builtin.append_ #[76, 3] ty #[.slice (some ⟨g, 0, none⟩) 0 c, .int .i64 ((n : Int) + 1)]).run Tryd.prog w = .ok (.slice (some ⟨w.heap.size, 0, none⟩) (n + 1) G) W0 := by
    intro ty
    have := hap0 ty
    rw [hW0] at this
    rw [← this]
    congr 5
  have hcp1 : ∀ ty dc, (Builtin.copy_ #[76, 76] ty #[.slice (some ⟨w.heap.size, 0, none⟩) (n + 1) dc, .slice (some ⟨vb, 0, none⟩) 1 1]).run Tryd.prog W0 = .ok (goInt 1) (W0.setRow w.heap.size (Z.toList.take 0 ++ fv f ++ Z.toList.drop (0 + (fv f).length)).toArray) := by
    intro ty dc
    have hmin : Nat.min 1 (n + 1) = 1 := by simp only [Nat.min_def]; split <;> omega
    have := run_copy_rowK (P := Tryd.prog) W0 76 76 ty 86 2 w.heap.size 0 (n + 1) dc ⟨vb, 0, none⟩ 1 1 Z 86 (fv f) Tryd.underlying76 fld_size hh0 (by rw [hmin]; rfl) (fun j u hu => by
      rw [Addr.add_lit, Nat.zero_add, hv0.cell]
      simpa [fv] using hu) (by rw [hZs]; simp [fv]; omega) h1f
    rw [hmin] at this
    exact this
  obtain ⟨C1, hC1⟩ : ∃ C1, (Z.toList.take 0 ++ fv f ++ Z.toList.drop (0 + (fv f).length)).toArray = C1 := ⟨_, rfl⟩
  rw [hC1] at hcp1
  obtain ⟨W1, hW1⟩ : ∃ W1, W0.setRow w.heap.size C1 = W1 := ⟨_, rfl⟩
  have hh1 : W1.heap[w.heap.size]? = some (.cells C1 86 (0, 0)) := by rw [← hW1]; exact setRow_heap W0 _ Z C1 _ _ hh0
  have hC1s : C1.size = G * 2 := by
    rw [← hC1]
    simp only [List.size_toArray, List.length_append, List.length_take, List.length_drop, Array.length_toList]
    simp [fv]
    omega
  have hb1 : Below w.heap.size w W1 := by
    rw [← hW1]
    exact hb0.trans ⟨rfl, rfl, rfl, by simp [World.setRow], fun k hk => setRow_other W0 _ k C1 (by omega)⟩
  have hcp2 : ∀ ty dc sc, (Builtin.copy_ #[76, 76] ty #[.slice (some ⟨w.heap.size, 2, none⟩) n dc, .slice (some ⟨g, 0, none⟩) n sc]).run Tryd.prog W1.drew = .ok (goInt n) (W1.drew.setRow w.heap.size (C1.toList.take 2 ++ fvs xs ++ C1.toList.drop (2 + (fvs xs).length)).toArray) := by
    intro ty dc sc
    have hmin : Nat.min n n = n := by simp only [Nat.min_def]; split <;> omega
    have := run_copy_rowK (P := Tryd.prog) W1.drew 76 76 ty 86 2 w.heap.size 2 n dc ⟨g, 0, none⟩ n sc C1 86 (fvs xs) Tryd.underlying76 fld_size hh1 (by rw [hmin]; exact hfl) (fun j u hu => (hb1.cell (p := (⟨g, 0, none⟩ : Addr).add j) (by rw [block_of_add]; exact Nat.lt_of_lt_of_le hlt (Nat.le_refl _))).trans (hcell j u hu)) (by rw [hfl, hC1s]; omega) h1x
    rw [hmin] at this
    exact this
  have hfin : Inserted w (W1.drew.setRow w.heap.size (C1.toList.take 2 ++ fvs xs ++ C1.toList.drop (2 + (fvs xs).length)).toArray) (some ⟨g, 0, none⟩) (.slice (some ⟨w.heap.size, 0, none⟩) (n + 1) G) f xs := by
    refine ⟨some ⟨w.heap.size, 0, none⟩, G, by rw [hn], ?_, ?_, fun a ha => .inr (by cases ha; exact Nat.le_refl _)⟩
    · rw [hn]
      refine ⟨by rw [fvs_cons, List.length_append, hfl]; simp [fv]; omega, .inr ⟨w.heap.size, G, _, rfl, Nat.zero_le _, setRow_heap W1.drew _ C1 _ _ _ hh1, hG, hG63, ?_, ?_⟩⟩
      · simp only [List.size_toArray, List.length_append, List.length_take, List.length_drop, Array.length_toList]
        omega
      · rw [List.toList_toArray, fvs_cons, ← hC1]
        have e3 : (fv f).length = 2 := rfl
        simp only [List.take_zero, List.nil_append, List.toList_toArray, Nat.zero_add, e3]
        have e4 : (fv f ++ Z.toList.drop 2).take 2 = fv f := by
          rw [List.take_append_of_le_length (by rw [e3]; exact Nat.le_refl _), List.take_of_length_le (by rw [e3]; exact Nat.le_refl _)]
        rw [e4, List.take_append_of_le_length (by rw [List.length_append, e3, hfl]; omega), List.take_of_length_le (by rw [List.length_append, e3, hfl]; omega)]
    · have : Below w.heap.size w (W1.drew.setRow w.heap.size (C1.toList.take 2 ++ fvs xs ++ C1.toList.drop (2 + (fvs xs).length)).toArray) :=
        (hb1.drew).trans ⟨rfl, rfl, rfl, by simp [World.setRow], fun k hk => setRow_other W1.drew _ k _ (by omega)⟩
      exact Keep.of_below this
  obtain ⟨W2, hW2⟩ : ∃ W2, W1.drew.setRow w.heap.size (C1.toList.take 2 ++ fvs xs ++ C1.toList.drop (2 + (fvs xs).length)).toArray = W2 := ⟨_, rfl⟩
  rw [hW2] at hcp2 hfin
  rw [hW1] at hcp1
  have HF := Lib.hid hfin
  have hn1 : decide ((c : Int) < (n : Int) + 1) = true := by simp; omega
  have hw1 : IntKind.i64.wrap 1 = 1 := by decide
  have hk1 : (1 : Int) ≤ (n : Int) + 1 := by omega
  have hk0 : (0 : Int) ≤ (n : Int) + 1 := by omega
  have hG1 : ¬ (G = 1) := by omega
  have hG0 : ¬ (G = 0) := by omega
  have hc0 : ¬ (c = 0) := by omega
  unfold maxLen at hG63
  clear hfin hW2 hW1 hC1 hC1s hh1 hh0 hv0 hv hcell hfl hn h1x h1f h hap0 hZ hZs hW0 hGe hi hz0 hz1 hz2 hb0 hb1
  go_enter Tryd.func85, Tryd.ntmps85
  go_wp2_with (at_builtin; refine Lib.wpList_append_run _ rfl _ _ _ _ rfl _ _ rfl rfl _ _ (hap _) ?_)
  go_wp2_with (at_builtin; refine wpList_copy_runK _ rfl _ _ 76 76 rfl _ _ rfl rfl (hcp1 _ _) ?_)
  go_region_law (refine step_copy_runK rfl _ _ 76 76 rfl _ _ (by simp [Act.eval, Act.put]) (by simp [Act.eval, Act.put]) (hcp2 _ _ _) ?_)
  go_wp2
  go_ret
  exact ⟨_, rfl, HF.out⟩
end Go.Proofs.YtkbbkamnmdeagaaDoor
