/-
  line.ReadAsk of what line.Ask writes. Condition: the request is one that line.Ask lets through; the bytes lie in a slice that reads so.
  strconv.Itoa in this program, where the table of powers lies as the program's text lays it. Condition: that table.
  fields.List, of a request that line lets through. Condition: the library's number lies that strings.Index asks for.
-/
import Derived.Test.YtbgnggkgmeagkaaGreatDoorMTopLines21
import Derived.Test.YtbgnggkgmeagkaaGreatDoorMTopLines06
import Derived.Test.YtbgnggkgmeagkaaGreatDoorMTopLines01
import Derived.Test.YtbgnggkgmeagkaaGreatDoorShelf
import Derived.Lib.AppendIntMem
import Derived.Lib.ItoaMem
import Derived.Test.YtbgnggkgmeagkaaGreatDoorMTopLines08
set_option linter.unusedSimpArgs false
set_option linter.unusedVariables false
namespace Go.Proofs.YtbgnggkgmeagkaaGreatDoor
open Go.RowKit

structure RaSt (w wr : World) (A : Option Addr) (l : List UInt8) (c : Nat) (a0 a1 a2 a3 a4 : Value) (rest : List UInt8) : Prop where
  g : Blk wr w.heap.size 25 #[a0, a1, a2, a3, a4]
  rd : ∃ at_, RdR wr (w.heap.size + 1) A l c at_ rest
  rb : Reads wr w.heap.size 1 A l.length (bs l)
  bw : Below w.heap.size w wr
section
variable {w wr w1 : World} {A : Option Addr} {l : List UInt8} {c : Nat} {a0 a1 a2 a3 a4 : Value} {rest rest' : List UInt8}
theorem RaSt.next (h : RaSt w wr A l c a0 a1 a2 a3 a4 rest) (hr : ∃ at_, RdR w1 (w.heap.size + 1) A l c at_ rest') (hb : BelowBut wr.heap.size (w.heap.size + 1) wr w1) : RaSt w w1 A l c a0 a1 a2 a3 a4 rest' := by
  have hs := h.bw.size
  exact ⟨(hb.block _ h.g.lt (by omega)).trans h.g, hr, h.rb.keep fun p hp => hb.cell (by omega) (by omega), h.bw.trans (hb.below h.bw.size (by omega))⟩
theorem RaSt.kept (h : RaSt w wr A l c a0 a1 a2 a3 a4 rest) (hb : Below wr.heap.size wr w1) : RaSt w w1 A l c a0 a1 a2 a3 a4 rest := by
  obtain ⟨a, hr⟩ := h.rd
  exact h.next ⟨a, hr.next hb⟩ (BelowBut.of hb)
theorem RaSt.far (h : RaSt w wr A l c a0 a1 a2 a3 a4 rest) (i : Nat) (v : Value) : (∃ at_, RdR (wr.setCell ⟨w.heap.size, i, none⟩ v) (w.heap.size + 1) A l c at_ rest) ∧ Reads (wr.setCell ⟨w.heap.size, i, none⟩ v) w.heap.size 1 A l.length (bs l) ∧ Below w.heap.size w (wr.setCell ⟨w.heap.size, i, none⟩ v) := by
  obtain ⟨a, hr⟩ := h.rd
  have h1 := h.rb.setCell (p := ⟨w.heap.size, i, none⟩) (Nat.le_refl _) v
  exact ⟨⟨a, ⟨hr.rd.blk.far (by simp) v, h1.more (by omega), hr.rd.le, hr.rd.cap, hr.rd.sm⟩, hr.eq⟩, h1, h.bw.setCell (p := ⟨w.heap.size, i, none⟩) (Nat.le_refl _) v⟩
theorem RaSt.s0 (h : RaSt w wr A l c a0 a1 a2 a3 a4 rest) (v : Value) : RaSt w (wr.setCell ⟨w.heap.size, 0, none⟩ v) A l c v a1 a2 a3 a4 rest :=
  ⟨by simpa using h.g.set_ 0 v, (h.far 0 v).1, (h.far 0 v).2.1, (h.far 0 v).2.2⟩
theorem RaSt.s1 (h : RaSt w wr A l c a0 a1 a2 a3 a4 rest) (v : Value) : RaSt w (wr.setCell ⟨w.heap.size, 1, none⟩ v) A l c a0 v a2 a3 a4 rest :=
  ⟨by simpa using h.g.set_ 1 v, (h.far 1 v).1, (h.far 1 v).2.1, (h.far 1 v).2.2⟩
theorem RaSt.s2 (h : RaSt w wr A l c a0 a1 a2 a3 a4 rest) (v : Value) : RaSt w (wr.setCell ⟨w.heap.size, 2, none⟩ v) A l c a0 a1 v a3 a4 rest :=
  ⟨by simpa using h.g.set_ 2 v, (h.far 2 v).1, (h.far 2 v).2.1, (h.far 2 v).2.2⟩
theorem RaSt.s3 (h : RaSt w wr A l c a0 a1 a2 a3 a4 rest) (v : Value) : RaSt w (wr.setCell ⟨w.heap.size, 3, none⟩ v) A l c a0 a1 a2 v a4 rest :=
  ⟨by simpa using h.g.set_ 3 v, (h.far 3 v).1, (h.far 3 v).2.1, (h.far 3 v).2.2⟩
theorem RaSt.s4 (h : RaSt w wr A l c a0 a1 a2 a3 a4 rest) (v : Value) : RaSt w (wr.setCell ⟨w.heap.size, 4, none⟩ v) A l c a0 a1 a2 a3 v rest :=
  ⟨by simpa using h.g.set_ 4 v, (h.far 4 v).1, (h.far 4 v).2.1, (h.far 4 v).2.2⟩
end
theorem tok_until {m : List UInt8} (h : isTok m = true) : m ≠ [] ∧ m.length ≤ 400 ∧ ∀ y ∈ m, tokL.contains y = true ∧ (32 : UInt8) ≠ y := by
  unfold isTok at h
  simp only [Bool.and_eq_true, decide_eq_true_eq] at h
  refine ⟨h.1.1, h.1.2, fun y hy => ?_⟩
  have := List.all_eq_true.1 h.2 y hy
  refine ⟨this, ?_⟩
  rintro rfl
  revert this
  decide
theorem index_neg {l : List UInt8} {c : UInt8} (h : ¬ 0 ≤ Lib.indexByte l c) : ∀ y ∈ l, y ≠ c := by
  intro y hy e
  subst e
  have := indexByte_mem l y
  rw [decide_eq_false h] at this
  rw [List.contains_iff_mem.2 hy] at this
  cases this
theorem word_until {p : List UInt8} (h : isWord p = true) : p ≠ [] ∧ p.length ≤ 400 ∧ ∀ y ∈ p, visB y = true ∧ (32 : UInt8) ≠ y := by
  unfold isWord at h
  simp only [Bool.and_eq_true, decide_eq_true_eq, Bool.not_eq_true', decide_eq_false_iff_not] at h
  obtain ⟨⟨h0, h1⟩, h2⟩ := h
  refine ⟨h0, plain_len h1, fun y hy => ?_⟩
  have h3 := index_neg h2 y hy
  unfold isPlain at h1
  simp only [Bool.and_eq_true] at h1
  have h4 := List.all_eq_true.1 h1.2 y hy
  unfold seen at h4
  simp only [Bool.and_eq_true, decide_eq_true_eq] at h4
  have h5 : y.toNat ≠ 32 := fun e => h3 (UInt8.toNat_inj.1 (by rw [e]; rfl))
  refine ⟨?_, fun e => h3 e.symm⟩
  unfold visB
  simp only [Bool.and_eq_true, decide_eq_true_eq]
  omega
/-- What line.CheckAsk lets through. -/
theorem askE_fine {m p h : List UInt8} {fs : List Fld} {nb : Nat} (hE : askE m p h fs nb = 0) : fs.length ≤ 40 ∧ nb ≤ 8000 ∧ isTok m = true ∧ isWord p = true ∧ h ≠ [] ∧ isPlain h = true ∧ fldE fs = 0 := by
  unfold askE at hE
  by_cases h1 : 40 < fs.length ∨ 8000 < nb
  · rw [if_pos h1] at hE; cases hE
  · rw [if_neg h1] at hE
    cases h2 : isTok m with
    | false => simp [h2] at hE
    | true =>
      cases h3 : isWord p with
      | false => simp [h2, h3] at hE
      | true =>
        by_cases h4 : h = []
        · simp [h2, h3, h4] at hE
        · cases h5 : isPlain h with
          | false => simp [h2, h3, h4, h5] at hE
          | true =>
            simp [h2, h3, h4, h5] at hE
            exact ⟨by omega, by omega, rfl, rfl, h4, rfl, hE⟩
theorem req_size {a b c d e : Value} : (Tryz.prog.info? 25).map (·.size) = some (#[a, b, c, d, e] : Array Value).size := by kernel_rfl
theorem own_setLow {w : World} {base size n : Nat} {e : TypeId} {v : Value} {xs : List Value} (h : w.ownsRow base e size v n xs) {p : Addr} (hp : p.block < base) (u : Value) : (w.setCell p u).ownsRow base e size v n xs :=
  h.kept (row := some p.block) ⟨rfl, rfl, rfl, by simp [World.setCell], fun k _ hk => Below.heap_setCell _ _ _ _ (fun e => hk (by simp [e]))⟩ (by
    cases hv : v.ownBlock with
    | none => exact .inl rfl
    | some g =>
      right
      intro e
      injection e with e
      have := (h.lt g hv).1
      omega)
theorem blk_same5 {w : World} {g : Nat} {t : TypeId} {a0 a1 a2 a3 a4 : Value} (h : Blk w g t #[a0, a1, a2, a3, a4]) : Blk (((((w.setCell ⟨g, 0, none⟩ a0).setCell ⟨g, 1, none⟩ a1).setCell ⟨g, 2, none⟩ a2).setCell ⟨g, 3, none⟩ a3).setCell ⟨g, 4, none⟩ a4) g t #[a0, a1, a2, a3, a4] := by
  simpa using ((((h.set_ 0 a0).set_ 1 a1).set_ 2 a2).set_ 3 a3).set_ 4 a4
def set5 (w : World) (g : Nat) (a0 a1 a2 a3 a4 : Value) : World := (((((w.setCell ⟨g, 0, none⟩ a0).setCell ⟨g, 1, none⟩ a1).setCell ⟨g, 2, none⟩ a2).setCell ⟨g, 3, none⟩ a3).setCell ⟨g, 4, none⟩ a4).drew
theorem own_drew {w : World} {base size n : Nat} {e : TypeId} {v : Value} {xs : List Value} (h : w.ownsRow base e size v n xs) : w.drew.ownsRow base e size v n xs := h
theorem set5_own {w : World} {base size n g : Nat} {e : TypeId} {v : Value} {xs : List Value} (h : w.ownsRow base e size v n xs) (hg : g < base) (a0 a1 a2 a3 a4 : Value) : (set5 w g a0 a1 a2 a3 a4).ownsRow base e size v n xs := by
  have h0 := own_setLow (p := ⟨g, 0, none⟩) h hg a0
  have h1 := own_setLow (p := ⟨g, 1, none⟩) h0 hg a1
  have h2 := own_setLow (p := ⟨g, 2, none⟩) h1 hg a2
  have h3 := own_setLow (p := ⟨g, 3, none⟩) h2 hg a3
  have h4 := own_setLow (p := ⟨g, 4, none⟩) h3 hg a4
  exact own_drew h4
theorem set5_below {B g : Nat} {w0 w : World} (h : Below B w0 w) (hg : B ≤ g) (a0 a1 a2 a3 a4 : Value) : Below B w0 (set5 w g a0 a1 a2 a3 a4) :=
  (((((h.setCell (p := ⟨g, 0, none⟩) hg a0).setCell (p := ⟨g, 1, none⟩) hg a1).setCell (p := ⟨g, 2, none⟩) hg a2).setCell (p := ⟨g, 3, none⟩) hg a3).setCell (p := ⟨g, 4, none⟩) hg a4).drew
/-- What ReadAsk hands back. -/
def RaGave (w w' : World) (m p h : List UInt8) (fs : List Fld) (b : List UInt8) (v : Value) : Prop := ∃ FA fc BA bc, v = .agg (reqV m p h FA fs.length fc BA b.length bc) ∧ w'.ownsRow w.heap.size 41 2 (.slice FA fs.length fc) fs.length (fvs fs) ∧ w'.ownsRow w.heap.size 5 1 (.slice BA b.length bc) b.length (bs b) ∧ Below w.heap.size w w'

set_option maxRecDepth 100000 in
set_option maxHeartbeats 4000000 in
theorem readAsk_ok (m p h : List UInt8) (fs : List Fld) (b : List UInt8) (hE : askE m p h fs b.length = 0) (A : Option Addr) (n c : Nat) (hn : n = (askL m p h fs b).length) (hcap : (askL m p h fs b).length ≤ c) (w : World) (hr : Reads w w.heap.size 1 A (askL m p h fs b).length (bs (askL m p h fs b))) :
    Calls Tryz.prog 7 #[.slice A n c] w fun e w' => ∃ v, e = .returned (.tuple #[v, .int .i64 ((n : Nat) : Int), .nilIface]) ∧ RaGave w w' m p h fs b v := by
  subst hn
  obtain ⟨q1, q2, q3, q4, q5, q6, q7⟩ := askE_fine hE
  have hgood := fldE_good fs q7
  have hlen := askL_len m p h fs b (tok_until q3).2.1 (word_until q4).2.1 (plain_len q6) (good_short q1 hgood) q2
  have hask : askL m p h fs b = m ++ (32 :: (p ++ (32 :: ((edgeL.drop 1) ++ ([58, 32] ++ h ++ [13, 10] ++ (linesL fs ++ (lenL b.length ++ ([13, 10] ++ b)))))))) := by
    unfold askL edgeL
    simp
  obtain ⟨l, hl⟩ : ∃ l, askL m p h fs b = l := ⟨_, rfl⟩
  rw [hl] at hr hlen hcap hask ⊢
  obtain ⟨m1, m2, m3⟩ := tok_until q3
  obtain ⟨p1, p2, p3⟩ := word_until q4
  obtain ⟨W0, hW0⟩ : ∃ W0, (w.alloc (.cells #[.string ⟨#[]⟩, .string ⟨#[]⟩, .string ⟨#[]⟩, .slice none 0 0, .slice none 0 0] 25)).alloc (.cells #[.slice A l.length c, .int .i64 0, .nilIface] 77) = W0 := ⟨_, rfl⟩
  have hba : Below w.heap.size w (w.alloc (.cells #[.string ⟨#[]⟩, .string ⟨#[]⟩, .string ⟨#[]⟩, .slice none 0 0, .slice none 0 0] 25)) := (Below.refl _ _).alloc (Nat.le_refl _) _
  have hb0 : Below w.heap.size w W0 := by rw [← hW0]; exact hba.alloc hba.size _
  have hS0 : RaSt w W0 A l c (.string ⟨#[]⟩) (.string ⟨#[]⟩) (.string ⟨#[]⟩) (.slice none 0 0) (.slice none 0 0) l := by
    refine ⟨?_, ⟨0, ⟨⟨?_, (hr.below hb0).more (by omega), Nat.zero_le _, hcap, by omega⟩, by simp⟩⟩, hr.below hb0, hb0⟩
    · rw [← hW0]; exact (Blk.new w _ _).alloc _
    · rw [← hW0]
      have := Blk.new (w.alloc (.cells #[.string ⟨#[]⟩, .string ⟨#[]⟩, .string ⟨#[]⟩, .slice none 0 0, .slice none 0 0] 25)) 77 #[.slice A l.length c, .int .i64 0, .nilIface]
      simpa using this
  have HS0 := Lib.hid hS0
  have HQ1 := Lib.hid q1
  have HQ2 := Lib.hid q2
  have HQ6 := Lib.hid q6
  have HGD := Lib.hid hgood
  have HASK := Lib.hid hask
  have HM := Lib.hid (And.intro m2 m3)
  have HP := Lib.hid (And.intro p2 p3)
  have em : m.isEmpty = false := by simpa using m1
  have ep : p.isEmpty = false := by simpa using p1
  have eh : h.isEmpty = false := by simpa using q5
  have HW0 := Lib.hid hW0
  clear hE hr hba hb0 hS0 q1 q2 q3 q4 q5 q6 q7 hgood hask m1 m2 m3 p1 p2 p3 hl hcap hlen
  go_enter Tryz.func7, Tryz.ntmps7
  go_wp2_with fail
  obtain ⟨r4, hr4⟩ : ∃ r4, linesL fs ++ (lenL b.length ++ ([13, 10] ++ b)) = r4 := ⟨_, rfl⟩
  obtain ⟨r3, hr3⟩ : ∃ r3, [58, 32] ++ h ++ [13, 10] ++ r4 = r3 := ⟨_, rfl⟩
  have hask := HASK.out
  rw [hr4, hr3] at hask
  obtain ⟨x0, hx0⟩ := HS0.out.rd
  have HC0 := Lib.hid (until_token (s := m) (x := 32) (rest := p ++ (32 :: (edgeL.drop 1 ++ r3))) (show RdR W0 (w.heap.size + 1) A l c x0 (m ++ 32 :: (p ++ (32 :: (edgeL.drop 1 ++ r3)))) from ⟨hx0.rd, hx0.eq.trans hask⟩) HM.out.2 HM.out.1)
  have HR4 := Lib.hid hr4
  have HR3 := Lib.hid hr3
  clear hask hx0 hr4 hr3 hW0
  refine HC0.out.mono ?_
  rintro e w1 ⟨rfl, hx1, hb1⟩
  have hs1 := HS0.out.next hx1 hb1
  have d0 := hs1.g.cell 0
  have f0 := hs1.g.frozen 0
  have l0 := hs1.g.lt
  have hs1' := hs1.s0 (.string ⟨m.toArray⟩)
  obtain ⟨x1, hx1'⟩ := hs1'.rd
  have HS1 := Lib.hid hs1'
  have HN1 := Lib.hid (rneed_ok hx1'.rd)
  have HC1 := Lib.hid (rmatch_rest (s := [32]) (rest := p ++ (32 :: (edgeL.drop 1 ++ r3))) (show RdR (w1.setCell ⟨w.heap.size, 0, none⟩ (.string ⟨m.toArray⟩)) (w.heap.size + 1) A l c x1 ([32] ++ (p ++ (32 :: (edgeL.drop 1 ++ r3)))) from hx1'))
  clear hx1 hb1 hs1 hs1' hx1'
  go_wp2_with fail
  refine HN1.out.mono ?_
  rintro e w2 ⟨rfl, rfl⟩
  go_wp2_with fail
  refine HC1.out.mono ?_
  rintro e w2 ⟨rfl, hx2, hb2⟩
  have hs2 := HS1.out.next hx2 hb2
  have d1 := hs2.g.cell 1
  have f1 := hs2.g.frozen 1
  have l2 := hs2.g.lt
  obtain ⟨x2, hx2'⟩ := hx2
  have HC2 := Lib.hid (until_visible (s := p) (x := 32) (rest := edgeL.drop 1 ++ r3) hx2' HP.out.2 HP.out.1)
  have HS2 := Lib.hid hs2
  clear hb2 hs2 hx2'
  go_wp2_with fail
  refine HC2.out.mono ?_
  rintro e w3 ⟨rfl, hx3, hb3⟩
  have hs3 := HS2.out.next hx3 hb3
  have d1 := hs3.g.cell 1
  have f1 := hs3.g.frozen 1
  have l3 := hs3.g.lt
  have hs3' := hs3.s1 (.string ⟨p.toArray⟩)
  obtain ⟨x3, hx3'⟩ := hs3'.rd
  have HS3 := Lib.hid hs3'
  have HN3 := Lib.hid (rneed_ok hx3'.rd)
  have HC3 := Lib.hid (rmatch_rest (s := edgeL) (rest := r3) (show RdR (w3.setCell ⟨w.heap.size, 1, none⟩ (.string ⟨p.toArray⟩)) (w.heap.size + 1) A l c x3 (edgeL ++ r3) from hx3'))
  clear hx3 hb3 hs3 hs3' hx3'
  go_wp2_with fail
  refine HN3.out.mono ?_
  rintro e w4 ⟨rfl, rfl⟩
  go_wp2_with fail
  refine HC3.out.mono ?_
  rintro e w4 ⟨rfl, hx4, hb4⟩
  have hs4 := HS3.out.next hx4 hb4
  obtain ⟨x4, hx4'⟩ := hx4
  have HC4 := Lib.hid (value_rest (s := h) (rest := r4) (show RdR w4 (w.heap.size + 1) A l c x4 ([58, 32] ++ h ++ [13, 10] ++ r4) from ⟨hx4'.rd, hx4'.eq.trans HR3.out.symm⟩) HQ6.out)
  have HS4 := Lib.hid hs4
  clear hb4 hs4 hx4'
  go_wp2_with fail
  refine HC4.out.mono ?_
  rintro e w5 ⟨rfl, hx5, hb5⟩
  have hs5 := HS4.out.next hx5 hb5
  have d2 := hs5.g.cell 2
  have f2 := hs5.g.frozen 2
  have l5 := hs5.g.lt
  have hs5' := hs5.s2 (.string ⟨h.toArray⟩)
  obtain ⟨x5, hx5'⟩ := hs5'.rd
  have HS5 := Lib.hid hs5'
  have HN5 := Lib.hid (rneed_ok hx5'.rd)
  have HC5 := Lib.hid (head_rest (rest := b) fs HGD.out HQ1.out b.length HQ2.out (show RdR (w5.setCell ⟨w.heap.size, 2, none⟩ (.string ⟨h.toArray⟩)) (w.heap.size + 1) A l c x5 (linesL fs ++ (lenL b.length ++ ([13, 10] ++ b))) from ⟨hx5'.rd, hx5'.eq.trans HR4.out.symm⟩))
  clear hx5 hb5 hs5 hs5' hx5'
  go_wp2_with fail
  refine HN5.out.mono ?_
  rintro e w6 ⟨rfl, rfl⟩
  go_wp2_with fail
  refine HC5.out.mono ?_
  rintro e w6 ⟨FA, fc, rfl, hh6⟩
  have hs6 := HS5.out.next hh6.rd hh6.bb
  have d3 := hs6.g.cell 3
  have f3 := hs6.g.frozen 3
  have l6 := hs6.g.lt
  have hs6' := hs6.s3 (.slice FA fs.length fc)
  have HS6 := Lib.hid hs6'
  have HO6 := Lib.hid hh6.own
  obtain ⟨x6, hx6⟩ := hs6'.rd
  have hsz5 := HS5.out.bw.size
  have hlt5 := HS5.out.g.lt
  have hlr5 : w.heap.size + 1 < (w5.setCell ⟨w.heap.size, 2, none⟩ (.string ⟨h.toArray⟩)).heap.size := by obtain ⟨a, ha⟩ := HS5.out.rd; exact ha.rd.blk.lt
  clear hs6 hs6' hh6
  rcases Nat.eq_zero_or_pos b.length with hb0 | hb0
  · have hbn : b = [] := List.eq_nil_of_length_eq_zero hb0
    subst hbn
    have hat : x6 = l.length := by have := hx6.len; simpa using this
    subst hat
    have hv : lenV ([] : List UInt8).length = .int .i64 (-1) := rfl
    rw [hv]
    have HF := Lib.hid (fault_ok hx6.rd)
    have HX6 := Lib.hid hx6
    clear hx6
    go_wp2_with fail
    refine HF.out.mono ?_
    rintro e w7 ⟨rfl, rfl⟩
    obtain ⟨W7, hW7⟩ : ∃ W7, w6.setCell ⟨w.heap.size, 3, none⟩ (.slice FA fs.length fc) = W7 := ⟨_, rfl⟩
    have HW7 := Lib.hid hW7
    have hg7 := HS6.out.g
    have hr7 := HX6.out.rd.blk
    rw [hW7] at hg7 hr7 ⊢
    have g0 := hg7.cell 0
    have g1 := hg7.cell 1
    have g2 := hg7.cell 2
    have g3 := hg7.cell 3
    have g4 := hg7.cell 4
    have k0 := hg7.frozen 0
    have k1 := hg7.frozen 1
    have k2 := hg7.frozen 2
    have k3 := hg7.frozen 3
    have k4 := hg7.frozen 4
    have r1 := hr7.cell 1
    have gl := hg7.lt
    have rl := hr7.lt
    have HG7 := Lib.hid hg7
    clear hg7 hr7 hW7
    go_wp2_with fail
    go_region
    all_goals
      go_wp2
      refine bodyPost_ret (results_cell_tmp2 rfl _ _ w.heap.size _ _ _ rfl (blk_same5 HG7.out).drew Tryz.underlying25 rfl req_size) rfl ?_
      refine ⟨_, rfl, FA, fc, none, 0, rfl, ?_, World.ownsRow_nil _ _ _ _, ?_⟩
      · refine own_down (set5_own (w := W7) ?_ hlt5 _ _ _ _ _) hsz5
        rw [← HW7.out]
        exact own_setLow HO6.out hlt5 _
      · refine set5_below ?_ (Nat.le_refl _) _ _ _ _ _
        have := HS6.out.bw
        rwa [HW7.out] at this
  · have hv : lenV b.length = .int .i64 ((b.length : Nat) : Int) := by unfold lenV; rw [if_neg (by omega)]
    rw [hv]
    have hi0 : (0 : Int) < ((b.length : Nat) : Int) := by omega
    have HB6 := Lib.hid (body_rest (rest := []) b hb0 (show RdR (w6.setCell ⟨w.heap.size, 3, none⟩ (.slice FA fs.length fc)) (w.heap.size + 1) A l c x6 (b ++ []) by rw [List.append_nil]; exact hx6))
    clear hx6
    go_wp2_with fail
    refine HB6.out.mono ?_
    rintro e w7 ⟨BA, bc, rfl, hob, ⟨x7, hx7⟩, hb7⟩
    have hat : x7 = l.length := by have := hx7.len; simpa using this
    subst hat
    have hs7 := HS6.out.next ⟨_, hx7⟩ hb7
    have d4 := hs7.g.cell 4
    have f4 := hs7.g.frozen 4
    have l7 := hs7.g.lt
    have hs7' := hs7.s4 (.slice BA b.length bc)
    have HS7 := Lib.hid hs7'
    have hr7 := (hs7.far 4 (.slice BA b.length bc)).1
    obtain ⟨x8, hx8⟩ := hr7
    have hat : x8 = l.length := by have := hx8.len; simpa using this
    subst hat
    have hsz6 := HS6.out.bw.size
    have hlt6 := HS6.out.g.lt
    have HOB := Lib.hid hob
    have HOF := Lib.hid (own_but (own_setLow HO6.out hlt5 (p := ⟨w.heap.size, 3, none⟩) (.slice FA fs.length fc)) hlr5 hb7)
    have HF := Lib.hid (fault_ok hx8.rd)
    have HX8 := Lib.hid hx8
    clear hx7 hb7 hs7 hs7' hob hx8
    go_wp2_with fail
    refine HF.out.mono ?_
    rintro e w9 ⟨rfl, rfl⟩
    obtain ⟨W7, hW7⟩ : ∃ W7, w7.setCell ⟨w.heap.size, 4, none⟩ (.slice BA b.length bc) = W7 := ⟨_, rfl⟩
    have HW7 := Lib.hid hW7
    have hg7 := HS7.out.g
    have hr7 := HX8.out.rd.blk
    rw [hW7] at hg7 hr7 ⊢
    have g0 := hg7.cell 0
    have g1 := hg7.cell 1
    have g2 := hg7.cell 2
    have g3 := hg7.cell 3
    have g4 := hg7.cell 4
    have k0 := hg7.frozen 0
    have k1 := hg7.frozen 1
    have k2 := hg7.frozen 2
    have k3 := hg7.frozen 3
    have k4 := hg7.frozen 4
    have r1 := hr7.cell 1
    have gl := hg7.lt
    have rl := hr7.lt
    have HG7 := Lib.hid hg7
    clear hg7 hr7 hW7
    go_wp2_with fail
    go_region
    all_goals
      go_wp2
      refine bodyPost_ret (results_cell_tmp2 rfl _ _ w.heap.size _ _ _ rfl (blk_same5 HG7.out).drew Tryz.underlying25 rfl req_size) rfl ?_
      refine ⟨_, rfl, FA, fc, BA, bc, rfl, ?_, ?_, ?_⟩
      · refine own_down (set5_own (w := W7) ?_ hlt5 _ _ _ _ _) hsz5
        rw [← HW7.out]
        exact own_setLow HOF.out hlt5 _
      · refine own_down (set5_own (w := W7) ?_ hlt6 _ _ _ _ _) hsz6
        rw [← HW7.out]
        exact own_setLow HOB.out hlt6 _
      · refine set5_below ?_ (Nat.le_refl _) _ _ _ _ _
        have := HS7.out.bw
        rwa [HW7.out] at this
end Go.Proofs.YtbgnggkgmeagkaaGreatDoor
namespace Go.Proofs.YtbgnggkgmeagkaaGreatDoor
open Go.RowKit

def Pow (w : World) : Prop := Lib.TabIs Tryz.prog w "internal/strconv.uint64pow10" .u64 Lib.pow10Tab
theorem Pow.next {w w' : World} (h : Pow w) (hb : Below w.heap.size w w') : Pow w' := by
  unfold Pow Lib.TabIs World.var? at h ⊢
  rw [← h]
  cases hg : Tryz.prog.globalNamed "internal/strconv.uint64pow10" with
  | none => rfl
  | some g =>
    rw [hg] at h
    simp only [Option.bind_some] at h ⊢
    have hlt : g < w.heap.size := by
      rcases Nat.lt_or_ge g w.heap.size with h1 | h1
      · exact h1
      · rw [Array.getElem?_eq_none h1] at h
        cases h
    rw [hb.block g hlt]
theorem itoa_any (n : Nat) (hn : n ≤ 9223372036854775807) (w : World) (h : Pow w) :
    Calls Tryz.prog 28 #[.int .i64 ((n : Nat) : Int)] w fun e w' => e = .returned (.string ⟨(Lib.decDigits n).toArray⟩) ∧ Below w.heap.size w w' := by
  refine (Tryz.strconv_Itoa ((n : Nat) : Int) (by omega) (by omega) w h).mono ?_
  rintro e w' ⟨he, k, os, rfl⟩
  refine ⟨?_, Lib.below_grow _ w (Nat.le_refl _) k os⟩
  rw [he, Lib.itoa_nonneg]
end Go.Proofs.YtbgnggkgmeagkaaGreatDoor
namespace Go.Proofs.YtbgnggkgmeagkaaGreatDoor
open Go.RowKit

/-- The library's number lies. -/
def MaxL (w : World) : Prop := ∃ m : Int, w.cell? ⟨1, 0, none⟩ = some (.int .i64 m)
theorem MaxL.next {w w' : World} (h : MaxL w) (hb : Below w.heap.size w w') : MaxL w' := by
  obtain ⟨m, hm⟩ := h
  exact ⟨m, (hb.cell (World.block_lt_of_cell? w _ hm)).trans hm⟩
theorem cut_len (v : List UInt8) (hv : v.length ≤ 400) : (cutC v).length ≤ 401 := by
  unfold cutC
  have h1 := splitK_len sepC (Lib.count v sepC) v
  have h2 := Lib.countB_le ⟨sepC.toArray⟩ (by decide) v.length ⟨v.toArray⟩ (Nat.le_refl _)
  have h3 : Lib.countB ⟨v.toArray⟩ ⟨sepC.toArray⟩ = Lib.count v sepC := rfl
  have h4 : (ByteArray.mk v.toArray).size = v.length := rfl
  omega
theorem ssplit_any (v : List UInt8) (hv : v.length ≤ 400) (w : World) (hM : MaxL w) :
    Calls Tryz.prog 38 #[.string ⟨v.toArray⟩, .string ⟨#[59, 32]⟩] w fun e w' => e = .returned (.slice (some ⟨w.heap.size, 0, none⟩) (cutC v).length (cutC v).length) ∧ (∀ j (h : j < (cutC v).length), w'.cell? ⟨w.heap.size, j, none⟩ = some (.string ⟨(cutC v)[j].toArray⟩)) ∧ Below w.heap.size w w' := by
  obtain ⟨m, hm⟩ := hM
  have hsz : (ByteArray.mk v.toArray).size = v.length := rfl
  refine (Tryz.strings_Split ⟨v.toArray⟩ ⟨#[59, 32]⟩ m w (by rw [hsz]; omega) hm (by decide)).mono ?_
  rintro e w' ⟨rfl, rfl⟩
  have hd : (Lib.splitB ⟨#[59, 32]⟩ 0 (Lib.countB ⟨v.toArray⟩ ⟨#[59, 32]⟩) ⟨v.toArray⟩).map (·.data.toList) = cutC v := Lib.splitB_data ⟨#[59, 32]⟩ 0 _ ⟨v.toArray⟩
  have hl := Lib.splitB_all ⟨#[59, 32]⟩ (by decide) 0 _ ⟨v.toArray⟩ rfl
  have hlen : (cutC v).length = Lib.countB ⟨v.toArray⟩ ⟨#[59, 32]⟩ + 1 := by rw [← hd, List.length_map, hl]
  refine ⟨by rw [hlen], fun j hj => ?_, (Below.refl _ _).alloc (Nat.le_refl _) _⟩
  rw [cell_of_row _ _ _ _ _ _ (heap_alloc_new w _)]
  have hj2 : j < (Lib.splitB ⟨#[59, 32]⟩ 0 (Lib.countB ⟨v.toArray⟩ ⟨#[59, 32]⟩) ⟨v.toArray⟩).length := by rw [hl, ← hlen]; exact hj
  have hg : (cutC v)[j] = (Lib.splitB ⟨#[59, 32]⟩ 0 (Lib.countB ⟨v.toArray⟩ ⟨#[59, 32]⟩) ⟨v.toArray⟩)[j].data.toList := by
    have : (cutC v)[j]? = some (Lib.splitB ⟨#[59, 32]⟩ 0 (Lib.countB ⟨v.toArray⟩ ⟨#[59, 32]⟩) ⟨v.toArray⟩)[j].data.toList := by
      rw [← hd, List.getElem?_map, List.getElem?_eq_getElem hj2]
      rfl
    rw [List.getElem?_eq_getElem hj] at this
    exact Option.some.inj this
  rw [List.getElem?_toArray, List.getElem?_map, List.getElem?_eq_getElem hj2, hg]
  rfl
theorem expF_len (f : Fld) (hf : f.2.length ≤ 400) : (expF f).length ≤ 401 := by
  unfold expF
  split
  · rw [List.length_map]; exact cut_len f.2 hf
  · simp
theorem expL_len : ∀ (fs : List Fld), (∀ f ∈ fs, f.2.length ≤ 400) → (expL fs).length ≤ 401 * fs.length
  | [], _ => by simp [expL]
  | f :: fs, h => by
    have h1 := expF_len f (h f (List.mem_cons_self ..))
    have h2 := expL_len fs fun g hg => h g (List.mem_cons_of_mem _ hg)
    show (expF f ++ expL fs).length ≤ _
    rw [List.length_append, List.length_cons]
    omega
theorem three_own (w : World) (m p h : List UInt8) : (w.alloc (.cells #[.string ⟨methL.toArray⟩, .string ⟨m.toArray⟩, .string ⟨pathL.toArray⟩, .string ⟨p.toArray⟩, .string ⟨chostL.toArray⟩, .string ⟨h.toArray⟩] 41)).ownsRow w.heap.size 41 2 (.slice (some ⟨w.heap.size, 0, none⟩) 3 3) 3 (fvs (listL m p h [])) :=
  ⟨rfl, .inr ⟨w.heap.size, 3, _, rfl, Nat.le_refl _, heap_alloc_new w _, Nat.le_refl _, by decide, rfl, rfl⟩⟩

/-- What List hands back, so far. -/
structure LiSt (w wr : World) (v : Value) (xs : List Fld) : Prop where
  own : wr.ownsRow w.heap.size 41 2 v xs.length (fvs xs)
  bw : Below w.heap.size w wr
theorem LiSt.kept {w wr w1 : World} {v : Value} {xs : List Fld} (h : LiSt w wr v xs) (hb : Below wr.heap.size wr w1) : LiSt w w1 v xs :=
  ⟨ownRow_keep h.own (Keep.of_below (S := fun _ => False) hb) fun _ _ h => h, h.bw.trans (hb.mono h.bw.size)⟩
/-- Pieces of a text that lie in a block. -/
def PcS (w : World) (b : Nat) (ps : List (List UInt8)) : Prop := b < w.heap.size ∧ ∀ j (h : j < ps.length), w.cell? ⟨b, j, none⟩ = some (.string ⟨ps[j].toArray⟩)
theorem PcS.kept {w w1 : World} {b : Nat} {ps : List (List UInt8)} (h : PcS w b ps) (hb : Below w.heap.size w w1) : PcS w1 b ps :=
  ⟨Nat.lt_of_lt_of_le h.1 hb.size, fun j hj => (hb.cell (p := ⟨b, j, none⟩) h.1).trans (h.2 j hj)⟩
theorem PcS.grown {w w1 : World} {b : Nat} {ps : List (List UInt8)} {row : Option Nat} (h : PcS w b ps) (hg : w.grownBy w1 row) (hne : row ≠ some b) : PcS w1 b ps :=
  ⟨Nat.lt_of_lt_of_le h.1 hg.size, fun j hj => hg.cell (h.2 j hj) (fun e => hne e.symm)⟩
theorem take_expF (fs : List Fld) {k : Nat} (h : k < fs.length) (m p hh : List UInt8) : listL m p hh (fs.take (k + 1)) = listL m p hh (fs.take k) ++ expF fs[k] := by
  rw [List.take_succ_eq_append_getElem h, listL_append]
  simp [expL]
set_option maxRecDepth 100000 in
set_option maxHeartbeats 4000000 in
theorem flist_ok (m p h : List UInt8) (fs : List Fld) (nb : Nat) (hE : askE m p h fs nb = 0) (FA : Option Addr) (fn fc : Nat) (hfn : fn = fs.length) (BA : Option Addr) (bc : Nat) (w : World) (hM : MaxL w) (hr : Reads w w.heap.size 2 FA fs.length (fvs fs)) :
    Calls Tryz.prog 8 #[.agg (reqV m p h FA fn fc BA nb bc)] w fun e w' => ∃ A c, e = .returned (.tuple #[.slice A (listL m p h fs).length c, .nilIface]) ∧ w'.ownsRow w.heap.size 41 2 (.slice A (listL m p h fs).length c) (listL m p h fs).length (fvs (listL m p h fs)) ∧ Below w.heap.size w w' := by
  subst hfn
  obtain ⟨q1, q2, q3, q4, q5, q6, q7⟩ := askE_fine hE
  have hgood := fldE_good fs q7
  have hsh := good_short q1 hgood
  have hlong : longOk fs := fun f hf => by have := hsh.2 f hf; omega
  obtain ⟨W, hW⟩ : ∃ W, w.alloc (.cells (reqV m p h FA fs.length fc BA nb bc) 25) = W := ⟨_, rfl⟩
  have q : ∀ w1, Below W.heap.size W w1 → w1.cell? ⟨w.heap.size, 0, none⟩ = some (.string ⟨m.toArray⟩) ∧ w1.cell? ⟨w.heap.size, 1, none⟩ = some (.string ⟨p.toArray⟩) ∧ w1.cell? ⟨w.heap.size, 2, none⟩ = some (.string ⟨h.toArray⟩) ∧ w1.cell? ⟨w.heap.size, 3, none⟩ = some (.slice FA fs.length fc) ∧ w1.cell? ⟨w.heap.size, 4, none⟩ = some (.slice BA nb bc) ∧ w.heap.size < w1.heap.size ∧ Below w.heap.size w w1 := by
    intro w1 h1
    rw [← hW] at h1
    have hb := Blk.new w 25 (reqV m p h FA fs.length fc BA nb bc)
    have hb2 := hb.below h1 hb.lt
    have hba : Below w.heap.size w (w.alloc (.cells (reqV m p h FA fs.length fc BA nb bc) 25)) := (Below.refl _ _).alloc (Nat.le_refl _) _
    exact ⟨hb2.cell 0, hb2.cell 1, hb2.cell 2, hb2.cell 3, hb2.cell 4, hb2.lt, hba.trans (h1.mono hba.size)⟩
  obtain ⟨d0, d1, d2, d3, d4, dl, hbW⟩ := q W (Below.refl _ _)
  have HQ := Lib.hid q
  have HR := Lib.hid hr
  have HMX := Lib.hid hM
  have HSH := Lib.hid hsh
  have hfl40 := q1
  have HC := Lib.hid (show Calls Tryz.prog 26 #[.agg (reqV m p h FA fs.length fc BA nb bc)] W fun e w' => e = .returned .nilIface ∧ Below W.heap.size W w' from by
    have h0 := checkAsk_any m p h fs (by have := (tok_until q3).2.1; omega) (by have := (word_until q4).2.1; omega) (by have := plain_len q6; omega) hlong (by omega) FA fs.length fc rfl BA nb bc W ((hr.below hbW).more hbW.size)
    rw [hE] at h0
    exact h0)
  clear hE hr hM q hsh hlong hgood q1 q2 q3 q4 q5 q6 q7 hbW
  have HW := Lib.hid hW
  go_enter Tryz.func8, Tryz.ntmps8
  go_wp2_with fail
  refine HC.out.mono ?_
  rintro e w1 ⟨rfl, hb1⟩
  obtain ⟨d0, d1, d2, d3, d4, dl, hbw1⟩ := HQ.out w1 hb1
  have HB1 := Lib.hid hbw1
  have h3o := three_own w1 m p h
  have HL0 := Lib.hid (show LiSt w (w1.alloc (.cells #[.string ⟨methL.toArray⟩, .string ⟨m.toArray⟩, .string ⟨pathL.toArray⟩, .string ⟨p.toArray⟩, .string ⟨chostL.toArray⟩, .string ⟨h.toArray⟩] 41)) (.slice (some ⟨w1.heap.size, 0, none⟩) 3 3) (listL m p h []) from ⟨own_down h3o hbw1.size, hbw1.alloc hbw1.size _⟩)
  clear hb1 hbw1 h3o hW
  go_wp2_with fail
  go_loopg [5, 28] fs.length (fun mm v5 i wr => ∃ (k N : Nat) (A : Option Addr) (c : Nat), mm + k = fs.length ∧ v5 = .slice A N c ∧ i = .int .i64 ((k : Nat) : Int) ∧ Hid (N = (listL m p h (fs.take k)).length) ∧ Hid (LiSt w wr (.slice A N c) (listL m p h (fs.take k))))
  case atStart => exact ⟨0, 3, _, 3, rfl, rfl, rfl, rfl, HL0.out⟩
  case round =>
    clear HL0
    obtain ⟨k, N, A, c, hk, rfl, rfl, HN, HL⟩ := hrel
    have hkl : k ≤ fs.length := by omega
    have HK := Lib.hid hk
    clear hk
    obtain ⟨g0, hg0⟩ : ∃ g0, g0 = gk := ⟨_, rfl⟩
    subst hg0
    obtain ⟨w8, hw8⟩ : ∃ w8, w8 = wr := ⟨_, rfl⟩
    subst hw8
    by_cases hlt : k < fs.length
    · obtain ⟨b, off, hA, hbB, hcl⟩ := reads_fld (HR.out.below HL.out.bw) (by omega)
      subst hA
      obtain ⟨c0, c1⟩ := hcl k hlt
      have hsh := HSH.out.2 fs[k] (List.getElem_mem hlt)
      have htk := take_expF fs hlt m p h
      have hexl := expL_len (fs.take k) (fun f hf => (HSH.out.2 f (List.mem_of_mem_take hf)).2)
      have htl : (fs.take k).length ≤ k := List.length_take_le _ _
      have hNl : N ≤ 20000 := by
        have := HN.out
        simp only [listL, List.length_cons] at this
        omega
      obtain ⟨f, hfk⟩ : ∃ f, fs[k] = f := ⟨_, rfl⟩
      rw [hfk] at c0 c1 hsh htk
      have hbw := Nat.lt_of_lt_of_le hbB HL.out.bw.size
      have hki : ((k : Nat) : Int) < ((fs.length : Nat) : Int) := by omega
      obtain ⟨f1, f2⟩ := f
      simp only at c0 c1 hsh
      obtain ⟨hs1, hs2⟩ := hsh
      obtain ⟨xs, hxs⟩ : ∃ xs, listL m p h (fs.take k) = xs := ⟨_, rfl⟩
      rw [hxs] at htk HL HN
      have HTK := Lib.hid htk
      have hba : Below w8.heap.size w8 (w8.alloc (.cells #[.string ⟨f1.toArray⟩, .string ⟨f2.toArray⟩] 41)) := (Below.refl _ _).alloc (Nat.le_refl _) _
      have HLA := Lib.hid (HL.out.kept hba)
      have hwz := HL.out.bw.size
      clear hcl hbB hfk hexl htl hxs hba htk
      by_cases hck : f1 = cookieL
      · subst hck
        have e0 : (([99, 111, 111, 107, 105, 101] : List UInt8) == [99, 111, 111, 107, 105, 101]) = true := rfl
        have he : expF (cookieL, f2) = (cutC f2).map fun x => (cookieL, x) := by unfold expF; rw [if_pos rfl]
        have HE := Lib.hid he
        have HSP := Lib.hid (ssplit_any f2 hs2 (w8.alloc (.cells #[.string ⟨cookieL.toArray⟩, .string ⟨f2.toArray⟩] 41)) (HMX.out.next HLA.out.bw))
        have hcl := cut_len f2 hs2
        obtain ⟨ps, hps⟩ : ∃ ps, cutC f2 = ps := ⟨_, rfl⟩
        rw [hps] at HSP HE hcl
        have HFC := Lib.hid ((Blk.new w8 41 #[.string ⟨cookieL.toArray⟩, .string ⟨f2.toArray⟩]).cell 1)
        have HPS := Lib.hid hps
        clear he hps
        go_wp2_with fail
        refine HSP.out.mono ?_
        rintro e w2 ⟨rfl, hpc, hb2⟩
        have hHL2 := HLA.out.kept hb2
        have hPC : Hid (PcS w2 (w8.heap.size + 1) ps) := by
          have hz : (w8.alloc (.cells #[.string ⟨cookieL.toArray⟩, .string ⟨f2.toArray⟩] 41)).heap.size = w8.heap.size + 1 := by simp
          rw [hz] at hpc
          obtain ⟨z, zs, hzs⟩ : ∃ z zs, ps = z :: zs := by
            cases ps with
            | nil => exact absurd HPS.out (cut_ne f2)
            | cons z zs => exact ⟨z, zs, rfl⟩
          exact ⟨World.block_lt_of_cell? w2 _ (hpc 0 (by rw [hzs]; simp)), hpc⟩
        have HL2 := Lib.hid hHL2
        have HNE := Lib.hid (show (Value.slice A N c).ownBlock ≠ some (w8.heap.size + 1) from fun e => by have := (HLA.out.own.lt _ e).2; simp at this)
        clear hpc hb2 hHL2
        go_wp2_with fail
        go_loopg [5, 43] ps.length (fun mm v5 i w3 => ∃ (j N3 : Nat) (A3 : Option Addr) (c3 : Nat), mm + j = ps.length ∧ v5 = .slice A3 N3 c3 ∧ i = .int .i64 ((j : Nat) : Int) ∧ Hid (N3 = (xs ++ (ps.take j).map fun x => (cookieL, x)).length) ∧ Hid (LiSt w w3 (.slice A3 N3 c3) (xs ++ (ps.take j).map fun x => (cookieL, x))) ∧ Hid (PcS w3 (w8.heap.size + 1) ps) ∧ Hid ((Value.slice A3 N3 c3).ownBlock ≠ some (w8.heap.size + 1)))
        case atStart => exact ⟨0, N, A, c, rfl, rfl, rfl, (show N = _ by simpa using HN.out), (show LiSt _ _ _ _ by simpa using HL2.out), hPC.out, HNE.out⟩
        case round =>
          clear HL2 HNE hPC
          obtain ⟨j, N3, A3, c3, hj, rfl, rfl, HN3, HL3, HP3, HNE3⟩ := hrel
          have HJ := Lib.hid hj
          have hjl : j ≤ ps.length := by omega
          clear hj
          by_cases hlj : j < ps.length
          · have hpj := HP3.out.2 j hlj
            have htj : ps.take (j + 1) = ps.take j ++ [ps[j]] := List.take_succ_eq_append_getElem hlj
            have hN3l : N3 ≤ 30000 := by
              have h1 := HN3.out
              have h2 := HN.out
              rw [List.length_append, List.length_map, List.length_take] at h1
              omega
            obtain ⟨x, hx⟩ : ∃ x, ps[j] = x := ⟨_, rfl⟩
            rw [hx] at hpj htj
            have HTJ := Lib.hid htj
            have hji : ((j : Nat) : Int) < ((ps.length : Nat) : Int) := by omega
            have hpl := HP3.out.1
            have hw3 := HL3.out.bw.size
            have HO3 := Lib.hid (show wr.ownsRow w.heap.size 41 2 (.slice A3 N3 c3) N3 (fvs (xs ++ (ps.take j).map fun x => (cookieL, x))) by have h9 := HL3.out.own; rwa [← HN3.out] at h9)
            clear htj hx
            go_wp2_with (at_builtin; refine wpList_pushF2 rfl _ _ rfl w.heap.size _ _ (xs ++ (ps.take j).map fun x => (cookieL, x)) rfl HO3.out (cookieL, x) _ rfl (by simp) (by omega) (by omega) ?_; intro A5 c5 w5 hown5 hg5 hv5 hb5; have HO5 := Lib.hid hown5; have HG5 := Lib.hid hg5; have HV5 := Lib.hid hv5; have HB5 := Lib.hid hb5; clear hown5 hg5 hv5 hb5)
            go_roundg (gk - 1)
            case measure => have := HJ.out; omega
            case rel =>
              have hl : (xs ++ (ps.take (j + 1)).map fun x => (cookieL, x)) = (xs ++ (ps.take j).map fun x => (cookieL, x)) ++ [(cookieL, x)] := by rw [HTJ.out]; simp
              refine ⟨j + 1, N3 + 1, A5, c5, by have := HJ.out; omega, rfl, by go_num, ?_, ?_, ?_, ?_⟩
              · show N3 + 1 = _
                rw [hl, List.length_append, ← HN3.out]
                rfl
              · show LiSt _ _ _ _
                rw [hl]
                refine ⟨?_, HL3.out.bw.trans HB5.out⟩
                rw [List.length_append, ← HN3.out]
                exact HO5.out
              · exact ((HP3.out.kept ((Below.refl _ _).alloc (Nat.le_refl _) _)).grown HG5.out HNE3.out)
              · show (Value.slice A5 (N3 + 1) c5).ownBlock ≠ _
                rcases HV5.out with h9 | h9
                · rw [h9]; exact HNE3.out
                · rw [h9]; intro e; injection e with e; omega
          · have hj2 : j = ps.length := by omega
            subst hj2
            have hji : ¬ ((ps.length : Nat) : Int) < ((ps.length : Nat) : Int) := by omega
            have hl : (xs ++ (ps.take ps.length).map fun x => (cookieL, x)) = listL m p h (fs.take (k + 1)) := by rw [List.take_length, HTK.out, HE.out]
            have HLE := Lib.hid hl
            clear hl
            go_wp2_with fail
            go_roundg (g0 - 1)
            case measure => have := HK.out; omega
            case rel =>
              refine ⟨k + 1, N3, A3, c3, by have := HK.out; omega, rfl, by go_num, ?_, ?_⟩
              · show N3 = _
                rw [← HLE.out]; exact HN3.out
              · show LiSt _ _ _ _
                rw [← HLE.out]; exact HL3.out
      · have e0 : (f1 == [99, 111, 111, 107, 105, 101]) = false := beq_eq_false_iff_ne.2 hck
        have he : expF (f1, f2) = [(f1, f2)] := by unfold expF; rw [if_neg hck]
        have HE := Lib.hid he
        have HO := Lib.hid (show (w8.alloc (.cells #[.string ⟨f1.toArray⟩, .string ⟨f2.toArray⟩] 41)).ownsRow w.heap.size 41 2 (.slice A N c) N (fvs xs) by have h9 := HLA.out.own; rwa [← HN.out] at h9)
        clear hck he
        go_wp2_with (at_builtin; refine wpList_pushF rfl _ _ rfl w.heap.size _ _ xs rfl HO.out (f1, f2) _ rfl (by simp) (by omega) (by simp; omega) ?_; intro A5 c5 w5 hown5 hb5 hc5; have HO5 := Lib.hid hown5; have HB5 := Lib.hid hb5; clear hown5 hb5 hc5)
        go_roundg (g0 - 1)
        case measure => have := HK.out; omega
        case rel =>
          refine ⟨k + 1, N + 1, A5, c5, by have := HK.out; omega, rfl, by go_num, ?_, ?_, ?_⟩
          · show N + 1 = _
            rw [HTK.out, HE.out, List.length_append, ← HN.out]
            rfl
          · rw [HTK.out, HE.out]
            rw [show (xs ++ [(f1, f2)]).length = N + 1 by rw [List.length_append, ← HN.out]; rfl]
            exact HO5.out
          · exact HLA.out.bw.trans HB5.out
    · have hk2 : k = fs.length := by omega
      subst hk2
      have hki : ¬ ((fs.length : Nat) : Int) < ((fs.length : Nat) : Int) := by omega
      go_wp2
      go_ret2
      have hN := HN.out
      have hL := HL.out
      rw [List.take_length] at hN hL
      subst hN
      exact ⟨A, c, rfl, hL.own, hL.bw⟩
end Go.Proofs.YtbgnggkgmeagkaaGreatDoor
