/-
  slices.Insert at []api.Field, one field at the head, into a row of the call's own. Condition: the row's length.
  A table behind a pointer: the contract of Add. Condition: the field's texts' lengths.
-/
import Derived.Test.YtbgnggkgmeagkaaGreatDoorMTopLines04
import Derived.Test.YtbgnggkgmeagkaaGreatDoorMTopLines03
import Derived.Lib.Overlaps
import Derived.Lib.AppendZerosOnto
import Derived.Laws.Externs
import Derived.Laws.CopyRow
import Derived.Test.YtbgnggkgmeagkaaGreatDoorMTopLines08
set_option linter.unusedSimpArgs false
set_option linter.unusedVariables false
namespace Go.Proofs.YtbgnggkgmeagkaaGreatDoor
open Go.RowKit
attribute [local go_sem ↓] Go.wp_at_zero Go.wp_at_succ

/-! ### copy into a row that is known whole, whatever an element's cells -/
theorem run_copy_rowK {P : Program} (w : World) (dT sT ty elem : TypeId) (size : Nat) (g o dLen dCap : Nat) (a : Addr) (sLen sCap : Nat) (cur : Array Value) (t : TypeId) (cs : List Value)
    (hu : P.underlying dT = some (.slice elem)) (hs : (P.info? elem).map (·.size) = some size)
    (hg : w.heap[g]? = some (.cells cur t (0, 0))) (hn : cs.length = Nat.min sLen dLen * size)
    (hsrc : ∀ j v, cs[j]? = some v → w.cell? (a.add j) = some v) (hfit : o + cs.length ≤ cur.size) (h1 : ∀ v ∈ cs, v.oneCell' = true) :
    (Builtin.copy_ #[dT, sT] ty #[.slice (some ⟨g, o, none⟩) dLen dCap, .slice (some a) sLen sCap]).run P w =
      .ok (goInt (Nat.min sLen dLen)) (w.setRow g (cur.toList.take o ++ cs ++ cur.toList.drop (o + cs.length)).toArray) := by
  have hl := run_firstCells_some (P := P) w size (Nat.min sLen dLen) a sLen sCap cs hn hsrc
  have hst := run_storeCells_at P g o t cs 0 cur w hg (by simpa using hfit) h1
  cases hq : P.info? elem with
  | none => simp [hq] at hs
  | some i =>
    have hi : i.size = size := by simpa [hq] using hs
    simp [Builtin.copy_, run_underlying hu, Builtin.lenOf, sizeOf, typeInfo, hq, hi, hl, hst]
theorem wp_copy_runK {P : Program} (w : World) {o : Oper} {a : Act} {K : Act → World → Prop} {Q : Exit → Act → World → Prop} (d s : Operand) (t t' : TypeId)
    (ho : o.op = .call { callee := .builtin .copy, args := #[d, s], argTypes := #[t, t'] }) (v u : Value) (hd : a.eval d = v) (hs : a.eval s = u) {v' : Value} {w' : World}
    (hr : (Builtin.copy_ #[t, t'] o.type #[v, u]).run P w = .ok v' w') (h : K (a.put o.dst v') w') : o.wp P a w K Q := by
  unfold Oper.wp execOp
  simp only [ho, resolve, invoke, builtin, Sem.run_bind, Sem.run_pure, Result.andThen_ok, List.map_toArray, List.map_cons, List.map_nil, hd, hs, hr]
  exact h
theorem wpList_copy_runK {P : Program} (w : World) {ops : Array Oper} {rest : List Oper} {o : Oper} {a : Act} {Q : Exit → Act → World → Prop} (hgd : o.guard = none) (d s : Operand) (t t' : TypeId)
    (ho : o.op = .call { callee := .builtin .copy, args := #[d, s], argTypes := #[t, t'] }) (v u : Value) (hd : a.eval d = v) (hs : a.eval s = u) {v' : Value} {w' : World}
    (hr : (Builtin.copy_ #[t, t'] o.type #[v, u]).run P w = .ok v' w') (h : wpList P ops Q rest (a.put o.dst v') w') : wpList P ops Q (o :: rest) a w :=
  wpList_plain hgd fun _ hK => wp_copy_runK w d s t t' ho v u hd hs hr (hK _ _ h)
theorem step_copy_runK {P : Program} {ops : Array Oper} {o : Oper} {a : Act} {w : World} {K : Act → World → Prop} {Q : Exit → Act → World → Prop} {E : Prop}
    (hg : o.guard = none) (d x : Operand) (dT sT : TypeId) (hop : o.op = Op.call { callee := Callee.builtin Builtin.copy, args := #[d, x], argTypes := #[dT, sT] })
    (v u : Value) (hd : a.eval d = v) (hx : a.eval x = u) {v' : Value} {w' : World} (hr : (Builtin.copy_ #[dT, sT] o.type #[v, u]).run P w = .ok v' w') (hK : K (a.put o.dst v') w') :
    if Region.wanted o (yielded ops a.tmps) = true then Oper.wp P o a w K Q else E := by
  have hw : Region.wanted o (yielded ops a.tmps) = true := by simp [Region.wanted, hg]
  rw [if_pos hw]
  exact wp_copy_runK w d x dT sT hop v u hd hx hr hK

theorem fld_size : (Tryz.prog.info? 41).map (·.size) = some 2 := by kernel_rfl
theorem fld_sizeOf (w : World) : (Go.sizeOf 41).run Tryz.prog w = .ok 2 w := by kernel_rfl
theorem overlaps_run (args : Array Value) (w : World) : (callFunc 147 args).run Tryz.prog w = ((Extern.SlicesOverlaps.overlaps #[22, 22] #[4] args).run Tryz.prog w).andThen fun v w' => .ok (.value v) w' :=
  run_callFunc_extern Tryz.func147 (by kernel_rfl) (by kernel_rfl) (by kernel_rfl) (by kernel_rfl) args w

/-- What the insertion leaves: a row of the call's own that begins with the field. -/
def Inserted (w w' : World) (A : Option Addr) (v : Value) (f : Fld) (xs : List Fld) : Prop :=
  ∃ A' c', v = .slice A' (xs.length + 1) c' ∧ w'.ownsRow 0 41 2 (.slice A' (xs.length + 1) c') (xs.length + 1) (fvs (f :: xs)) ∧ Keep (fun k => ∃ a, A = some a ∧ k = a.block) w w' ∧
    (∀ a, A' = some a → (∃ b, A = some b ∧ a.block = b.block) ∨ w.heap.size ≤ a.block)

set_option maxRecDepth 100000 in
set_option maxHeartbeats 4000000 in
theorem insert_nil {w : World} {A : Option Addr} {c : Nat} (h : w.ownsRow 0 41 2 (.slice A 0 c) 0 (fvs [])) (f : Fld) (vb : Nat) (hv : Blk w vb 41 #[.string ⟨f.1.toArray⟩, .string ⟨f.2.toArray⟩]) :
    Calls Tryz.prog 93 #[.slice A 0 c, .int .i64 0, .slice (some ⟨vb, 0, none⟩) 1 1] w fun e w' => ∃ v, e = .returned v ∧ Inserted w w' A v f [] := by
  obtain ⟨i0, hi, hz0, hz1, hz2⟩ := info_parts fld_info
  have hc : c ≤ 9223372036854775807 := by
    rcases h.2 with ⟨he, _⟩ | ⟨_, cap, cur, he, _, _, _, hm, _⟩
    · injection he with _ _ hc; omega
    · injection he with _ _ hc; unfold maxLen at hm; omega
  have hr : Reads w (vb + 1) 2 (some ⟨vb, 0, none⟩) 1 (fv f) := by
    refine ⟨rfl, fun _ => ⟨_, rfl, by simp, fun j u hu => ?_⟩⟩
    rw [Addr.add_lit, Nat.zero_add, hv.cell]
    simpa [fv] using hu
  have h1 : ∀ u ∈ fv f, u.oneCell' = true := by
    intro u hu
    simp only [fv, List.mem_cons, List.not_mem_nil, or_false] at hu
    rcases hu with rfl | rfl <;> rfl
  have HH := Lib.hid h
  have HI := Lib.hid hi
  have HZ0 := Lib.hid hz0
  have HZ1 := Lib.hid hz1
  have HZ2 := Lib.hid hz2
  clear hi hz0 hz1 hz2 hv h
  go_enter Tryz.func93, Tryz.ntmps93
  go_wp2_with (at_builtin; refine wpList_append_any _ rfl _ _ 22 rfl 0 41 i0 (.agg #[.string ⟨#[]⟩, .string ⟨#[]⟩]) 2 32 Tryz.underlying22 HI.out HZ0.out HZ1.out HZ2.out rfl (by decide) (.slice A 0 c) 0 (fvs []) rfl HH.out (vb + 1) (some ⟨vb, 0, none⟩) 1 1 (fv f) rfl hr h1 (by unfold maxLen; omega) (by omega) (Nat.zero_le _) ?_; intro v2 w2 hown2 hg2 hat2)
  go_ret
  obtain ⟨g2, cap2, hv2, _, _⟩ := hown2.form (by omega)
  subst hv2
  refine ⟨_, rfl, some ⟨g2, 0, none⟩, cap2, by rfl, hown2, (Keep.refl _ _).grown hg2 fun k hk => ?_, fun a ha => ?_⟩
  · cases A with
    | none => simp [Value.ownBlock] at hk
    | some a => exact .inl ⟨a, rfl, by simpa [Value.ownBlock] using hk.symm⟩
  · cases ha
    rcases hat2 with hat2 | hat2
    · cases A with
      | none => simp [Value.ownBlock] at hat2
      | some a => exact .inl ⟨a, rfl, by simpa [Value.ownBlock] using hat2⟩
    · have he2 : g2 = w.heap.size := by simpa [Value.ownBlock] using hat2
      exact .inr (Nat.le_of_eq he2.symm)

theorem Keep.setRow {S : Nat → Prop} {w w1 : World} (h : Keep S w w1) {g : Nat} (hg : S g ∨ w.heap.size ≤ g) (cs : Array Value) : Keep S w (w1.setRow g cs) :=
  ⟨h.os, h.tape, h.output, by simpa [World.setRow] using h.size, fun k hk hS => (setRow_other w1 g k cs (by rintro rfl; rcases hg with h1 | h1; exact hS h1; omega)).trans (h.block k hk hS)⟩

set_option maxRecDepth 100000 in
set_option maxHeartbeats 4000000 in
theorem insert_room {w : World} {A : Option Addr} {c : Nat} {xs : List Fld} (h : w.ownsRow 0 41 2 (.slice A xs.length c) xs.length (fvs xs)) (hn0 : 0 < xs.length) (hroom : xs.length + 1 ≤ c) (hm : xs.length ≤ 1000) (f : Fld) (vb : Nat) (hv : Blk w vb 41 #[.string ⟨f.1.toArray⟩, .string ⟨f.2.toArray⟩]) (hne : ∀ a, A = some a → a.block ≠ vb) :
    Calls Tryz.prog 93 #[.slice A xs.length c, .int .i64 0, .slice (some ⟨vb, 0, none⟩) 1 1] w fun e w' => ∃ v, e = .returned v ∧ Inserted w w' A v f xs := by
  rcases h.2 with ⟨_, h0⟩ | ⟨g, cap, cur, he, _, hg, _, hcm, hsz, htk⟩
  · omega
  injection he with hA _ hcc
  subst hA
  subst hcc
  have hgv : vb ≠ g := fun e => hne _ rfl e.symm
  unfold maxLen at hcm
  obtain ⟨n, hn⟩ : ∃ n, xs.length = n := ⟨_, rfl⟩
  have hfl := fvs_length xs
  rw [hn] at hfl htk hn0 hroom hm ⊢
  have h1x := fvs_one xs
  have h1f : ∀ u ∈ fv f, u.oneCell' = true := by
    intro u hu
    simp only [fv, List.mem_cons, List.not_mem_nil, or_false] at hu
    rcases hu with rfl | rfl <;> rfl
  have hov : ∀ lb cb, (callFunc 147 #[.slice (some ⟨vb, 0, none⟩) 1 1, .slice (some ⟨g, 2, none⟩) lb cb]).run Tryz.prog w = .ok (.value (.bool false)) w := by
    intro lb cb
    rw [overlaps_run, Lib.run_overlaps_apart w 22 4 41 Tryz.underlying22 2 fld_sizeOf ⟨vb, 0, none⟩ ⟨g, 2, none⟩ 1 1 lb cb hgv 41 41 2 cur.size ?_ ?_ (by omega) (hv.frozen 0) (hv.frozen 2)]
    · rfl
    · unfold Blk at hv; simp [World.shape?, hv]
    · simp [World.shape?, hg]
  have hcell : ∀ j u, (fvs xs)[j]? = some u → w.cell? ((⟨g, 0, none⟩ : Addr).add j) = some u := h.cells rfl
  have hcp1 : ∀ ty dc sc, (Builtin.copy_ #[22, 22] ty #[.slice (some ⟨g, 2, none⟩) n dc, .slice (some ⟨g, 0, none⟩) (n + 1) sc]).run Tryz.prog w.drew = .ok (goInt n) (w.drew.setRow g (cur.toList.take 2 ++ fvs xs ++ cur.toList.drop (2 + (fvs xs).length)).toArray) := by
    intro ty dc sc
    have hmin : Nat.min (n + 1) n = n := by simp only [Nat.min_def]; split <;> omega
    have := run_copy_rowK (P := Tryz.prog) w.drew 22 22 ty 41 2 g 2 n dc ⟨g, 0, none⟩ (n + 1) sc cur 41 (fvs xs) Tryz.underlying22 fld_size hg (by rw [hmin]; exact hfl) hcell (by rw [hfl, hsz]; omega) h1x
    rw [hmin] at this
    exact this
  obtain ⟨C1, hC1⟩ : ∃ C1, (cur.toList.take 2 ++ fvs xs ++ cur.toList.drop (2 + (fvs xs).length)).toArray = C1 := ⟨_, rfl⟩
  rw [hC1] at hcp1
  obtain ⟨W1, hW1⟩ : ∃ W1, w.drew.setRow g C1 = W1 := ⟨_, rfl⟩
  have hg1 : W1.heap[g]? = some (.cells C1 41 (0, 0)) := by rw [← hW1]; exact setRow_heap w.drew g cur C1 _ _ hg
  have hv1 : Blk W1 vb 41 #[.string ⟨f.1.toArray⟩, .string ⟨f.2.toArray⟩] := by
    unfold Blk
    rw [← hW1, setRow_other w.drew g vb C1 hgv]
    exact hv
  have hC1s : C1.size = c * 2 := by
    rw [← hC1]
    simp only [List.size_toArray, List.length_append, List.length_take, List.length_drop, Array.length_toList]
    omega
  have hcp2 : ∀ ty dc, (Builtin.copy_ #[22, 22] ty #[.slice (some ⟨g, 0, none⟩) (n + 1) dc, .slice (some ⟨vb, 0, none⟩) 1 1]).run Tryz.prog W1 = .ok (goInt 1) (W1.setRow g (C1.toList.take 0 ++ fv f ++ C1.toList.drop (0 + (fv f).length)).toArray) := by
    intro ty dc
    have hmin : Nat.min 1 (n + 1) = 1 := by simp only [Nat.min_def]; split <;> omega
    have := run_copy_rowK (P := Tryz.prog) W1 22 22 ty 41 2 g 0 (n + 1) dc ⟨vb, 0, none⟩ 1 1 C1 41 (fv f) Tryz.underlying22 fld_size hg1 (by rw [hmin]; rfl) (fun j u hu => by
      rw [Addr.add_lit, Nat.zero_add, hv1.cell]
      simpa [fv] using hu) (by rw [hC1s]; simp [fv]; omega) h1f
    rw [hmin] at this
    exact this
  have hfin : Inserted w (W1.setRow g (C1.toList.take 0 ++ fv f ++ C1.toList.drop (0 + (fv f).length)).toArray) (some ⟨g, 0, none⟩) (.slice (some ⟨g, 0, none⟩) (n + 1) c) f xs := by
    refine ⟨some ⟨g, 0, none⟩, c, by rw [hn], ?_, ?_, fun a ha => .inl ⟨_, rfl, by cases ha; rfl⟩⟩
    · rw [hn]
      refine ⟨by rw [fvs_cons, List.length_append, hfl]; simp [fv]; omega, .inr ⟨g, c, _, rfl, Nat.zero_le _, setRow_heap W1 g C1 _ _ _ hg1, hroom, by unfold maxLen; omega, ?_, ?_⟩⟩
      · simp only [List.size_toArray, List.length_append, List.length_take, List.length_drop, Array.length_toList]
        simp [fv]
        omega
      · rw [List.toList_toArray, fvs_cons, ← hC1]
        have e2 : (cur.toList.take 2).length = 2 := by simp; omega
        simp only [List.take_zero, List.nil_append, List.toList_toArray, Nat.zero_add]
        have e3 : (fv f).length = 2 := rfl
        rw [e3, List.append_assoc, List.drop_append_of_le_length (by omega), List.drop_of_length_le (by omega), List.nil_append, ← List.append_assoc, List.take_append_of_le_length (by rw [List.length_append, e3, hfl]; omega), List.take_of_length_le (by rw [List.length_append, e3, hfl]; omega)]
    · rw [← hW1]
      exact (((Keep.refl _ _).drew).setRow (.inl ⟨_, rfl, rfl⟩) _).setRow (.inl ⟨_, rfl, rfl⟩) _
  obtain ⟨W2, hW2⟩ : ∃ W2, W1.setRow g (C1.toList.take 0 ++ fv f ++ C1.toList.drop (0 + (fv f).length)).toArray = W2 := ⟨_, rfl⟩
  rw [hW2] at hcp2 hfin
  rw [hW1] at hcp1
  have HF := Lib.hid hfin
  have hc1 : (1 : Int) ≤ (c : Int) := by omega
  have hc2 : ¬ (c = 1) := by omega
  have hc3 : ¬ (c = 0) := by omega
  have hn1 : decide ((c : Int) < (n : Int) + 1) = false := by simp; omega
  have hw1 : IntKind.i64.wrap 1 = 1 := by decide
  have hb1 : (1 : Int) ≤ (n : Int) + 1 := by omega
  have hb0 : (0 : Int) ≤ (n : Int) + 1 := by omega
  clear hfin hW2 hW1 hC1 hC1s hg1 hv1 hcell htk hsz hfl hn h1x h1f hv h hg
  go_enter Tryz.func93, Tryz.ntmps93
  go_wp2_with (simp only [hov])
  go_region_law (refine step_copy_runK rfl _ _ 22 22 rfl _ _ (by simp [Act.eval, Act.put]) (by simp [Act.eval, Act.put]) (hcp1 _ _ _) ?_)
  go_wp2_with (at_builtin; refine wpList_copy_runK _ rfl _ _ 22 22 rfl _ _ rfl rfl (hcp2 _ _) ?_)
  go_ret
  exact ⟨_, rfl, HF.out⟩

set_option maxRecDepth 100000 in
set_option maxHeartbeats 4000000 in
theorem insert_grow {w : World} {A : Option Addr} {c : Nat} {xs : List Fld} (h : w.ownsRow 0 41 2 (.slice A xs.length c) xs.length (fvs xs)) (hn0 : 0 < xs.length) (hroom : c < xs.length + 1) (hm : xs.length ≤ 1000) (f : Fld) (vb : Nat) (hv : Blk w vb 41 #[.string ⟨f.1.toArray⟩, .string ⟨f.2.toArray⟩]) :
    Calls Tryz.prog 93 #[.slice A xs.length c, .int .i64 0, .slice (some ⟨vb, 0, none⟩) 1 1] w fun e w' => ∃ v, e = .returned v ∧ Inserted w w' A v f xs := by
  obtain ⟨i0, hi, hz0, hz1, hz2⟩ := info_parts fld_info
  obtain ⟨g, cap, he, _, hlt⟩ := h.form hn0
  injection he with hA _ hcc
  subst hA
  subst hcc
  have hnc : xs.length ≤ c := by
    rcases h.2 with ⟨he, _⟩ | ⟨_, _, _, he, _, _, hh, _⟩
    · cases he
    · injection he with _ _ hcc; omega
  obtain ⟨n, hn⟩ : ∃ n, xs.length = n := ⟨_, rfl⟩
  have hfl := fvs_length xs
  have hcell : ∀ j u, (fvs xs)[j]? = some u → w.cell? ((⟨g, 0, none⟩ : Addr).add j) = some u := h.cells rfl
  rw [hn] at hfl hn0 hroom hm hnc ⊢
  have h1x := fvs_one xs
  have h1f : ∀ u ∈ fv f, u.oneCell' = true := by
    intro u hu
    simp only [fv, List.mem_cons, List.not_mem_nil, or_false] at hu
    rcases hu with rfl | rfl <;> rfl
  have hG := grownCap_ge w (n + 1) c 41
  have hG63 := grownCap_le_maxLen w (n + 1) c 41 (by unfold maxLen; omega)
  have hap0 := fun ty => Lib.run_append_grow_zeros (P := Tryz.prog) w 22 3 ty 41 i0 (.agg #[.string ⟨#[]⟩, .string ⟨#[]⟩]) .i64 .i64 Tryz.underlying22 Tryz.underlying3 hi hz0 (some ⟨g, 0, none⟩) 0 c [] (run_firstCells_some w.drew i0.size 0 ⟨g, 0, none⟩ 0 c [] (by simp) (fun j v hj => by simp at hj)) (n + 1) (by omega) (by omega) (by omega) (by omega) (by rw [hz2]; omega)
    (growslice_fits (by omega) (by rw [hz2]; omega))
  simp only [Nat.zero_add] at hap0
  obtain ⟨G, hGe⟩ : ∃ G, grownCap w (n + 1) c 41 = G := ⟨_, rfl⟩
  rw [hGe] at hG hG63 hap0
  obtain ⟨Z, hZ⟩ : ∃ Z, ([] : List Value).toArray ++ Builtin.zeroCells (.agg #[.string ⟨#[]⟩, .string ⟨#[]⟩] : Value).cells (n + 1) ++ Builtin.zeroCells (.agg #[.string ⟨#[]⟩, .string ⟨#[]⟩] : Value).cells (G - (n + 1)) = Z := ⟨_, rfl⟩
  have hZs : Z.size = G * 2 := by
    rw [← hZ, Array.size_append, Array.size_append, zeroCells_size, zeroCells_size]
    have : (.agg #[.string ⟨#[]⟩, .string ⟨#[]⟩] : Value).cells.size = 2 := by rfl
    rw [this]
    simp
    omega
  rw [hZ] at hap0
  obtain ⟨W0, hW0⟩ : ∃ W0, w.drew.alloc (.cells Z 41) = W0 := ⟨_, rfl⟩
  have hh0 : W0.heap[w.heap.size]? = some (.cells Z 41 (0, 0)) := by rw [← hW0]; exact heap_alloc_new w.drew _
  have hv0 : Blk W0 vb 41 #[.string ⟨f.1.toArray⟩, .string ⟨f.2.toArray⟩] := by rw [← hW0]; exact hv.drew.alloc _
  have hb0 : Below w.heap.size w W0 := by rw [← hW0]; exact ((Below.refl _ _).drew).alloc (Nat.le_refl _) _
  have hap : ∀ ty, (Builtin.append_ #[22, 3] ty #[.slice (some ⟨g, 0, none⟩) 0 c, .int .i64 ((n : Int) + 1)]).run Tryz.prog w = .ok (.slice (some ⟨w.heap.size, 0, none⟩) (n + 1) G) W0 := by
    intro ty
    have := hap0 ty
    rw [hW0] at this
    rw [← this]
    congr 5
  have hcp1 : ∀ ty dc, (Builtin.copy_ #[22, 22] ty #[.slice (some ⟨w.heap.size, 0, none⟩) (n + 1) dc, .slice (some ⟨vb, 0, none⟩) 1 1]).run Tryz.prog W0 = .ok (goInt 1) (W0.setRow w.heap.size (Z.toList.take 0 ++ fv f ++ Z.toList.drop (0 + (fv f).length)).toArray) := by
    intro ty dc
    have hmin : Nat.min 1 (n + 1) = 1 := by simp only [Nat.min_def]; split <;> omega
    have := run_copy_rowK (P := Tryz.prog) W0 22 22 ty 41 2 w.heap.size 0 (n + 1) dc ⟨vb, 0, none⟩ 1 1 Z 41 (fv f) Tryz.underlying22 fld_size hh0 (by rw [hmin]; rfl) (fun j u hu => by
      rw [Addr.add_lit, Nat.zero_add, hv0.cell]
      simpa [fv] using hu) (by rw [hZs]; simp [fv]; omega) h1f
    rw [hmin] at this
    exact this
  obtain ⟨C1, hC1⟩ : ∃ C1, (Z.toList.take 0 ++ fv f ++ Z.toList.drop (0 + (fv f).length)).toArray = C1 := ⟨_, rfl⟩
  rw [hC1] at hcp1
  obtain ⟨W1, hW1⟩ : ∃ W1, W0.setRow w.heap.size C1 = W1 := ⟨_, rfl⟩
  have hh1 : W1.heap[w.heap.size]? = some (.cells C1 41 (0, 0)) := by rw [← hW1]; exact setRow_heap W0 _ Z C1 _ _ hh0
  have hC1s : C1.size = G * 2 := by
    rw [← hC1]
    simp only [List.size_toArray, List.length_append, List.length_take, List.length_drop, Array.length_toList]
    simp [fv]
    omega
  have hb1 : Below w.heap.size w W1 := by
    rw [← hW1]
    exact hb0.trans ⟨rfl, rfl, rfl, by simp [World.setRow], fun k hk => setRow_other W0 _ k C1 (by omega)⟩
  have hcp2 : ∀ ty dc sc, (Builtin.copy_ #[22, 22] ty #[.slice (some ⟨w.heap.size, 2, none⟩) n dc, .slice (some ⟨g, 0, none⟩) n sc]).run Tryz.prog W1.drew = .ok (goInt n) (W1.drew.setRow w.heap.size (C1.toList.take 2 ++ fvs xs ++ C1.toList.drop (2 + (fvs xs).length)).toArray) := by
    intro ty dc sc
    have hmin : Nat.min n n = n := by simp only [Nat.min_def]; split <;> omega
    have := run_copy_rowK (P := Tryz.prog) W1.drew 22 22 ty 41 2 w.heap.size 2 n dc ⟨g, 0, none⟩ n sc C1 41 (fvs xs) Tryz.underlying22 fld_size hh1 (by rw [hmin]; exact hfl) (fun j u hu => (hb1.cell (p := (⟨g, 0, none⟩ : Addr).add j) (by rw [block_of_add]; exact Nat.lt_of_lt_of_le hlt (Nat.le_refl _))).trans (hcell j u hu)) (by rw [hfl, hC1s]; omega) h1x
    rw [hmin] at this
    exact this
  have hfin : Inserted w (W1.drew.setRow w.heap.size (C1.toList.take 2 ++ fvs xs ++ C1.toList.drop (2 + (fvs xs).length)).toArray) (some ⟨g, 0, none⟩) (.slice (some ⟨w.heap.size, 0, none⟩) (n + 1) G) f xs := by
    refine ⟨some ⟨w.heap.size, 0, none⟩, G, by rw [hn], ?_, ?_, fun a ha => .inr (by cases ha; exact Nat.le_refl _)⟩
    · rw [hn]
      refine ⟨by rw [fvs_cons, List.length_append, hfl]; simp [fv]; omega, .inr ⟨w.heap.size, G, _, rfl, Nat.zero_le _, setRow_heap W1.drew _ C1 _ _ _ hh1, hG, hG63, ?_, ?_⟩⟩
      · simp only [List.size_toArray, List.length_append, List.length_take, List.length_drop, Array.length_toList]
        omega
      · rw [List.toList_toArray, fvs_cons, ← hC1]
        have e3 : (fv f).length = 2 := rfl
        simp only [List.take_zero, List.nil_append, List.toList_toArray, Nat.zero_add, e3]
        have e4 : (fv f ++ Z.toList.drop 2).take 2 = fv f := by
          rw [List.take_append_of_le_length (by rw [e3]; exact Nat.le_refl _), List.take_of_length_le (by rw [e3]; exact Nat.le_refl _)]
        rw [e4, List.take_append_of_le_length (by rw [List.length_append, e3, hfl]; omega), List.take_of_length_le (by rw [List.length_append, e3, hfl]; omega)]
    · have : Below w.heap.size w (W1.drew.setRow w.heap.size (C1.toList.take 2 ++ fvs xs ++ C1.toList.drop (2 + (fvs xs).length)).toArray) :=
        (hb1.drew).trans ⟨rfl, rfl, rfl, by simp [World.setRow], fun k hk => setRow_other W1.drew _ k _ (by omega)⟩
      exact Keep.of_below this
  obtain ⟨W2, hW2⟩ : ∃ W2, W1.drew.setRow w.heap.size (C1.toList.take 2 ++ fvs xs ++ C1.toList.drop (2 + (fvs xs).length)).toArray = W2 := ⟨_, rfl⟩
  rw [hW2] at hcp2 hfin
  rw [hW1] at hcp1
  have HF := Lib.hid hfin
  have hn1 : decide ((c : Int) < (n : Int) + 1) = true := by simp; omega
  have hw1 : IntKind.i64.wrap 1 = 1 := by decide
  have hk1 : (1 : Int) ≤ (n : Int) + 1 := by omega
  have hk0 : (0 : Int) ≤ (n : Int) + 1 := by omega
  have hG1 : ¬ (G = 1) := by omega
  have hG0 : ¬ (G = 0) := by omega
  have hc0 : ¬ (c = 0) := by omega
  unfold maxLen at hG63
  clear hfin hW2 hW1 hC1 hC1s hh1 hh0 hv0 hv hcell hfl hn h1x h1f h hap0 hZ hZs hW0 hGe hi hz0 hz1 hz2 hb0 hb1
  go_enter Tryz.func93, Tryz.ntmps93
  go_wp2_with (at_builtin; refine Lib.wpList_append_run _ rfl _ _ _ _ rfl _ _ rfl rfl _ _ (hap _) ?_)
  go_wp2_with (at_builtin; refine wpList_copy_runK _ rfl _ _ 22 22 rfl _ _ rfl rfl (hcp1 _ _) ?_)
  go_region_law (refine step_copy_runK rfl _ _ 22 22 rfl _ _ (by simp [Act.eval, Act.put]) (by simp [Act.eval, Act.put]) (hcp2 _ _ _) ?_)
  go_wp2
  go_ret
  exact ⟨_, rfl, HF.out⟩
end Go.Proofs.YtbgnggkgmeagkaaGreatDoor
namespace Go.Proofs.YtbgnggkgmeagkaaGreatDoor
open Go.RowKit
attribute [local go_sem ↓] Go.wp_at_zero Go.wp_at_succ

theorem insert_any {w : World} {A : Option Addr} {c : Nat} {xs : List Fld} (h : w.ownsRow 0 41 2 (.slice A xs.length c) xs.length (fvs xs)) (hm : xs.length ≤ 1000) (f : Fld) (vb : Nat) (hv : Blk w vb 41 #[.string ⟨f.1.toArray⟩, .string ⟨f.2.toArray⟩]) (hne : ∀ a, A = some a → a.block ≠ vb) (n : Nat) (hn : n = xs.length) :
    Calls Tryz.prog 93 #[.slice A n c, .int .i64 0, .slice (some ⟨vb, 0, none⟩) 1 1] w fun e w' => ∃ v, e = .returned v ∧ Inserted w w' A v f xs := by
  subst hn
  rcases Nat.eq_zero_or_pos xs.length with h0 | h0
  · have hx : xs = [] := List.eq_nil_of_length_eq_zero h0
    subst hx
    exact insert_nil h f vb hv
  · by_cases hroom : xs.length + 1 ≤ c
    · exact insert_room h h0 hroom hm f vb hv hne
    · exact insert_grow h h0 (by omega) hm f vb hv

/-- What an add leaves. -/
def Added (w w' : World) (g : Nat) (A : Option Addr) (mx : Nat) (xs : List Fld) (f : Fld) : Prop :=
  ∃ A' c', Tab w' g A' c' (tAdd mx xs f) mx ∧ Keep (tOwn g A) w w' ∧ ∀ k, tOwn g A' k → tOwn g A k ∨ w.heap.size ≤ k

theorem below_of_drew {w w1 : World} (hb : Below w.drew.heap.size w.drew w1) : Below w.heap.size w w1 := ⟨hb.os, hb.tape, hb.output, hb.size, hb.block⟩

set_option maxRecDepth 100000 in
set_option maxHeartbeats 4000000 in
theorem add_no {w : World} {g : Nat} {A : Option Addr} {c : Nat} {xs : List Fld} {mx : Nat} (h : Tab w g A c xs mx) (f : Fld) (hf : fOk f) (hno : mx < fsz f) :
    Calls Tryz.prog 44 #[.pointer (some ⟨g, 0, none⟩), .agg #[.string ⟨f.1.toArray⟩, .string ⟨f.2.toArray⟩]] w fun e w' => e = .returned (.bool false) ∧ Added w w' g A mx xs f := by
  have hd : decide (((mx : Nat) : Int) < ((fsz f : Nat) : Int)) = true := by simp; omega
  have hbx := (Below.refl w.heap.size w).alloc (Nat.le_refl _) (.cells #[.string ⟨f.1.toArray⟩, .string ⟨f.2.toArray⟩] 41)
  have hT := h.below hbx
  have hgw := h.lt
  have hBx : Blk (w.alloc (.cells #[.string ⟨f.1.toArray⟩, .string ⟨f.2.toArray⟩] 41)) w.heap.size 41 #[.string ⟨f.1.toArray⟩, .string ⟨f.2.toArray⟩] := Blk.new w _ _
  obtain ⟨_, _, c2⟩ := hT.cells
  have b0 : (w.alloc (.cells #[.string ⟨f.1.toArray⟩, .string ⟨f.2.toArray⟩] 41)).cell? ⟨w.heap.size, 0, none⟩ = some (.string ⟨f.1.toArray⟩) := hBx.cell 0
  have b1 : (w.alloc (.cells #[.string ⟨f.1.toArray⟩, .string ⟨f.2.toArray⟩] 41)).cell? ⟨w.heap.size, 1, none⟩ = some (.string ⟨f.2.toArray⟩) := hBx.cell 1
  have HX := Lib.hid hBx
  have HT := Lib.hid hT
  have HB := Lib.hid hbx
  have HG := Lib.hid hgw
  clear hT hbx h hBx hgw
  go_enter Tryz.func44, Tryz.ntmps44
  go_wp2
  generalize (w.alloc (.cells #[.string ⟨f.1.toArray⟩, .string ⟨f.2.toArray⟩] 41)) = W at *
  go_region_held3 (fun w' => w'.cell? ⟨g, 2, none⟩ = some (.int .i64 ((mx : Nat) : Int)) ∧ w'.cell? ⟨w.heap.size, 0, none⟩ = some (.string ⟨f.1.toArray⟩) ∧ w'.cell? ⟨w.heap.size, 1, none⟩ = some (.string ⟨f.2.toArray⟩))
    (first | go_keep | (exact ⟨cell_behind hb1 ‹_›, cell_behind hb1 ‹_›, cell_behind hb1 ‹_›⟩))
    (first | (go_at_call 91; refine (size_any f hf _).mono ?_; rintro e w1 ⟨rfl, hb1⟩))
  all_goals
    have hbW := below_of_drew hb1
    have h1 := Lib.hid (HT.out.below hbW)
    have h2 := Lib.hid (HB.out.trans (hbW.mono HB.out.size))
    clear hb1 hbW
    go_wp2_with fail
    refine (shrink_any h1.out 0 (by omega)).mono ?_
    rintro e w2 ⟨rfl, h3, h4⟩
    go_wp2
    go_ret
    refine ⟨rfl, A, c, ?_, (Keep.of_below h2.out).trans h4 fun i hi => .inl hi, fun k hk => .inl hk⟩
    rw [tAdd_no hno]
    rw [shr_zero] at h3
    exact h3

/-- Insert's call as it stands in Add. -/
theorem insert_at {w3 : World} {g : Nat} {A : Option Addr} {c : Nat} {ys : List Fld} {mx : Nat} (h : Tab w3 g A c ys mx) (f : Fld) :
    Calls Tryz.prog 93 #[.slice A ys.length c, .int .i64 0, .slice (some ⟨w3.heap.size, 0, none⟩) 1 1] (w3.alloc (.cells #[.string ⟨f.1.toArray⟩, .string ⟨f.2.toArray⟩] 41)).drew fun e w4 =>
      ∃ A' c', e = .returned (.slice A' (ys.length + 1) c') ∧ w4.ownsRow 0 41 2 (.slice A' (ys.length + 1) c') (ys.length + 1) (fvs (f :: ys)) ∧
        Blk w4 g 168 #[.slice A ys.length c, .int .i64 (wt ys : Nat), .int .i64 (mx : Nat)] ∧ Keep (tOwn g A) w3 w4 ∧ (∀ a, A' = some a → (∃ b, A = some b ∧ a.block = b.block) ∨ w3.heap.size ≤ a.block) := by
  have hb : Below w3.heap.size w3 (w3.alloc (.cells #[.string ⟨f.1.toArray⟩, .string ⟨f.2.toArray⟩] 41)).drew := ((Below.refl _ _).alloc (Nat.le_refl _) _).drew
  have h1 := h.below hb
  have hcap := h.cap.2.2
  have hlt := h.lt
  refine (insert_any h1.own (by omega) f w3.heap.size ((Blk.new w3 _ _).drew) (fun a ha he => ?_) _ rfl).mono ?_
  · have := hlt a.block (.inr ⟨a, ha, rfl⟩)
    omega
  · rintro e w4 ⟨v, rfl, A', c', rfl, hown, hk, hfr⟩
    refine ⟨A', c', rfl, hown, h1.blk.keep hk ?_, ?_, fun a ha => ?_⟩
    · rintro ⟨a, ha, he⟩
      exact tab_ne h a ha he.symm
    · exact (Keep.of_below hb).trans (hk.mono (T := tOwn g A) fun i hi => .inr hi) fun i hi => .inl hi
    · rcases hfr a ha with h2 | h2
      · exact .inl h2
      · refine .inr ?_
        have := hb.size
        omega
/-- What Add's end leaves. -/
theorem add_end {w w3 w4 w6 : World} {g : Nat} {A A' : Option Addr} {c c' : Nat} {xs ys : List Fld} {mx : Nat} {f : Fld} (hy : tAdd mx xs f = f :: ys) (hmx : mx ≤ 4096) (hk3 : Keep (tOwn g A) w w3)
    (hown : w4.ownsRow 0 41 2 (.slice A' (ys.length + 1) c') (ys.length + 1) (fvs (f :: ys))) (hblk : Blk w4 g 168 #[.slice A ys.length c, .int .i64 (wt ys : Nat), .int .i64 (mx : Nat)]) (hk4 : Keep (tOwn g A) w3 w4)
    (hfr : ∀ a, A' = some a → (∃ b, A = some b ∧ a.block = b.block) ∨ w3.heap.size ≤ a.block) (hb : Below (w4.setCell ⟨g, 0, none⟩ (.slice A' (ys.length + 1) c')).heap.size (w4.setCell ⟨g, 0, none⟩ (.slice A' (ys.length + 1) c')) w6) :
    Added w (w6.setCell ⟨g, 1, none⟩ (.int .i64 ((wt ys + fsz f : Nat) : Int))) g A mx xs f := by
  have hw : wt (f :: ys) = wt ys + fsz f := by rw [wt_cons]; omega
  have hwt := wt_tAdd mx xs f
  have hne : ∀ a, A' = some a → a.block ≠ g := by
    intro a ha he
    have := own_blk_ne hown hblk (by decide)
    rw [ha] at this
    exact this (by simp [Value.ownBlock, he])
  have o1 := own_setT hown hne (.slice A' (ys.length + 1) c') (p := ⟨g, 0, none⟩)
  have k1 := hblk.set_ 0 (.slice A' (ys.length + 1) c')
  have k2 : Blk w6 g 168 _ := k1.below hb k1.lt
  have o2 := own_keep o1 (Keep.of_below (S := fun _ => False) hb) fun _ _ h => h
  have o3 := own_setT o2 hne (.int .i64 ((wt ys + fsz f : Nat) : Int)) (p := ⟨g, 1, none⟩)
  have k3 := k2.set_ 1 (.int .i64 ((wt ys + fsz f : Nat) : Int))
  refine ⟨A', c', ?_, ?_, ?_⟩
  · rw [hy] at hwt ⊢
    refine ⟨?_, o3, by omega, hmx⟩
    rw [hw]
    simpa using k3
  · have k4 : Keep (tOwn g A) w4 (w6.setCell ⟨g, 1, none⟩ (.int .i64 ((wt ys + fsz f : Nat) : Int))) := by
      have a1 := (Keep.refl (tOwn g A) w4).setCell (p := ⟨g, 0, none⟩) (.inl (.inl rfl)) (.slice A' (ys.length + 1) c')
      have a2 := a1.trans (Keep.of_below (S := tOwn g A) hb) fun i hi => .inl hi
      exact a2.setCell (p := ⟨g, 1, none⟩) (.inl (.inl rfl)) _
    exact (hk3.trans hk4 fun i hi => .inl hi).trans k4 fun i hi => .inl hi
  · rintro k (rfl | ⟨a, ha, rfl⟩)
    · exact .inl (.inl rfl)
    · rcases hfr a ha with ⟨b, hb1, hb2⟩ | h2
      · exact .inl (.inr ⟨b, hb1, hb2⟩)
      · refine .inr ?_
        have := hk3.size
        omega

set_option maxRecDepth 100000 in
set_option maxHeartbeats 4000000 in
theorem add_yes {w : World} {g : Nat} {A : Option Addr} {c : Nat} {xs : List Fld} {mx : Nat} (h : Tab w g A c xs mx) (f : Fld) (hf : fOk f) (hno : ¬ mx < fsz f) :
    Calls Tryz.prog 44 #[.pointer (some ⟨g, 0, none⟩), .agg #[.string ⟨f.1.toArray⟩, .string ⟨f.2.toArray⟩]] w fun e w' => e = .returned (.bool true) ∧ Added w w' g A mx xs f := by
  have hd : decide (((mx : Nat) : Int) < ((fsz f : Nat) : Int)) = false := by simp; omega
  have hmx := h.mx
  have hwr : IntKind.i64.wrap (((mx : Nat) : Int) - ((fsz f : Nat) : Int)) = ((mx - fsz f : Nat) : Int) := by
    rw [IntKind.wrap_i64]
    omega
  have hbx := (Below.refl w.heap.size w).alloc (Nat.le_refl _) (.cells #[.string ⟨f.1.toArray⟩, .string ⟨f.2.toArray⟩] 41)
  have hT := h.below hbx
  have hgw := h.lt
  have hBx : Blk (w.alloc (.cells #[.string ⟨f.1.toArray⟩, .string ⟨f.2.toArray⟩] 41)) w.heap.size 41 #[.string ⟨f.1.toArray⟩, .string ⟨f.2.toArray⟩] := Blk.new w _ _
  obtain ⟨_, _, c2⟩ := hT.cells
  have b0 : (w.alloc (.cells #[.string ⟨f.1.toArray⟩, .string ⟨f.2.toArray⟩] 41)).cell? ⟨w.heap.size, 0, none⟩ = some (.string ⟨f.1.toArray⟩) := hBx.cell 0
  have b1 : (w.alloc (.cells #[.string ⟨f.1.toArray⟩, .string ⟨f.2.toArray⟩] 41)).cell? ⟨w.heap.size, 1, none⟩ = some (.string ⟨f.2.toArray⟩) := hBx.cell 1
  have HX := Lib.hid hBx
  have HT := Lib.hid hT
  have HB := Lib.hid hbx
  have HG := Lib.hid hgw
  clear hT hbx h hBx hgw
  go_enter Tryz.func44, Tryz.ntmps44
  go_wp2
  generalize (w.alloc (.cells #[.string ⟨f.1.toArray⟩, .string ⟨f.2.toArray⟩] 41)) = W at *
  go_region_held3 (fun w' => w'.cell? ⟨g, 2, none⟩ = some (.int .i64 ((mx : Nat) : Int)) ∧ w'.cell? ⟨w.heap.size, 0, none⟩ = some (.string ⟨f.1.toArray⟩) ∧ w'.cell? ⟨w.heap.size, 1, none⟩ = some (.string ⟨f.2.toArray⟩))
    (first | go_keep | (exact ⟨cell_behind hb1 ‹_›, cell_behind hb1 ‹_›, cell_behind hb1 ‹_›⟩))
    (first | (go_at_call 91; refine (size_any f hf _).mono ?_; rintro e w1 ⟨rfl, hb1⟩))
  all_goals
    have hbW := below_of_drew hb1
    have h1 := HT.out.below hbW
    have h2 := HB.out.trans (hbW.mono HB.out.size)
    have hx1 := HX.out.below hbW HX.out.lt
    have HX1 := Lib.hid hx1
    have HT1 := Lib.hid h1
    have HB1 := Lib.hid h2
    obtain ⟨_, _, d2⟩ := h1.cells
    have e0 : w1.cell? ⟨w.heap.size, 0, none⟩ = some (.string ⟨f.1.toArray⟩) := hx1.cell 0
    have e1 : w1.cell? ⟨w.heap.size, 1, none⟩ = some (.string ⟨f.2.toArray⟩) := hx1.cell 1
    clear hb1 hbW h1 h2 hx1 c2 b0 b1 HX HT HB
    go_wp2
    go_region_held3 (fun w' => w'.cell? ⟨g, 2, none⟩ = some (.int .i64 ((mx : Nat) : Int)) ∧ w'.cell? ⟨w.heap.size, 0, none⟩ = some (.string ⟨f.1.toArray⟩) ∧ w'.cell? ⟨w.heap.size, 1, none⟩ = some (.string ⟨f.2.toArray⟩))
      (first | go_keep | (exact ⟨cell_behind hb2 ‹_›, cell_behind hb2 ‹_›, cell_behind hb2 ‹_›⟩) | (exact ⟨h3.cells.2.2, (hx3.cell 0), (hx3.cell 1)⟩))
      (first | (go_at_call 91; refine (size_any f hf _).mono ?_; rintro e w2 ⟨rfl, hb2⟩) | (go_at_call 92; refine (shrink_any (HT1.out.below (below_of_drew hb2)) (mx - fsz f) (by omega)).mono ?_; rintro e w3 ⟨rfl, h3, h4⟩; have hx3 := (HX1.out.below (below_of_drew hb2) HX1.out.lt).keep h4 (fun ht => absurd (HG.out _ ht) (Nat.lt_irrefl _))))
    all_goals
      have hk3 := Lib.hid (((Keep.of_below HB1.out).trans (Keep.of_below (S := tOwn g A) (below_of_drew hb2)) fun i hi => .inl hi).trans h4 fun i hi => .inl hi)
      have hs3 : w.heap.size < w3.heap.size := hx3.lt
      have HX3 := Lib.hid hx3
      have HT3 := Lib.hid h3
      obtain ⟨p0, p1, p2⟩ := h3.cells
      have g0 := h3.blk.frozen 0
      have g1 := h3.blk.frozen 1
      have hg3 := h3.blk.lt
      have q0 : w3.cell? ⟨w.heap.size, 0, none⟩ = some (.string ⟨f.1.toArray⟩) := hx3.cell 0
      have q1 : w3.cell? ⟨w.heap.size, 1, none⟩ = some (.string ⟨f.2.toArray⟩) := hx3.cell 1
      have hwt3 := h3.wt
      have hcap3 := h3.cap.2.2
      have HN := Lib.hid (insert_at h3 f)
      have HY := Lib.hid (tAdd_yes hno (xs := xs))
      clear hb2 h3 h4 hx3 d2 e0 e1 HX1 HT1 HB1
      generalize shr (mx - fsz f) xs = ys at *
      have hws : IntKind.i64.wrap (((wt ys : Nat) : Int) + ((fsz f : Nat) : Int)) = ((wt ys + fsz f : Nat) : Int) := by
        rw [IntKind.wrap_i64]
        omega
      go_wp2
      go_region_law (first | (go_simp; go_at_call 93; refine HN.out.mono ?_; rintro e w4 ⟨A4, c4, rfl, hown4, hblk4, hk4, hfr4⟩; have t0 := hblk4.cell 0; have t1 := hblk4.frozen 0))
      all_goals
        have k5 := hblk4.set_ 0 (.slice A4 (ys.length + 1) c4)
        have x5 : Blk (w4.setCell ⟨g, 0, none⟩ (.slice A4 (ys.length + 1) c4)) w.heap.size 41 #[.string ⟨f.1.toArray⟩, .string ⟨f.2.toArray⟩] :=
          (HX3.out.keep hk4 (fun ht => absurd (HG.out _ ht) (Nat.lt_irrefl _))).far (p := ⟨g, 0, none⟩) (by have := HG.out g (.inl rfl); show w.heap.size ≠ g; omega) _
        have HE := Lib.hid (fun (w6 : World) (hb : Below (w4.setCell ⟨g, 0, none⟩ (.slice A4 (ys.length + 1) c4)).heap.size (w4.setCell ⟨g, 0, none⟩ (.slice A4 (ys.length + 1) c4)) w6) => add_end (xs := xs) HY.out hmx hk3.out hown4 hblk4 hk4 hfr4 hb)
        clear hown4 hblk4 hk4 hfr4 t0 t1 q0 q1 p0 p1 p2 g0 g1 HX3 HN hs3 hg3
        generalize w4.setCell ⟨g, 0, none⟩ (.slice A4 (ys.length + 1) c4) = W5 at *
        have u1 : W5.cell? ⟨g, 1, none⟩ = some (.int .i64 ((wt ys : Nat) : Int)) := by
          have := k5.cell 1
          simpa using this
        have v1 := k5.frozen 1
        have hg5 := k5.lt
        have x0 : W5.cell? ⟨w.heap.size, 0, none⟩ = some (.string ⟨f.1.toArray⟩) := x5.cell 0
        have x1 : W5.cell? ⟨w.heap.size, 1, none⟩ = some (.string ⟨f.2.toArray⟩) := x5.cell 1
        clear k5 x5
        go_wp2
        go_region_law (first | (go_simp; go_at_call 91; refine (size_any f hf _).mono ?_; rintro e w6 ⟨rfl, hb6⟩; have s1 := cell_drew hb6 u1; have s2 := frozen_drew hb6 hg5 v1))
        all_goals
          go_wp2
          go_ret
          exact ⟨rfl, HE.out _ (below_of_drew hb6)⟩
theorem add_any {w : World} {g : Nat} {A : Option Addr} {c : Nat} {xs : List Fld} {mx : Nat} (h : Tab w g A c xs mx) (f : Fld) (hf : fOk f) :
    Calls Tryz.prog 44 #[.pointer (some ⟨g, 0, none⟩), .agg #[.string ⟨f.1.toArray⟩, .string ⟨f.2.toArray⟩]] w fun e w' => e = .returned (.bool (decide (fsz f ≤ mx))) ∧ Added w w' g A mx xs f := by
  by_cases hno : mx < fsz f
  · have e : decide (fsz f ≤ mx) = false := by simp; omega
    rw [e]
    exact add_no h f hf hno
  · have e : decide (fsz f ≤ mx) = true := by simp; omega
    rw [e]
    exact add_yes h f hf hno
end Go.Proofs.YtbgnggkgmeagkaaGreatDoor
