/-
  The reference's coder for what comes: where its loop stands. Condition: none but what the words say.
-/
import Derived.Test.YtkbbkamnmdeagaaDoorRC3
import Derived.Test.YtkbbkamnmdeagaaDoorHdecF
namespace Go.Proofs.YtkbbkamnmdeagaaDoor
open Go.RowKit
attribute [local go_sem ↓] Go.wp_at_zero Go.wp_at_succ

/-! ### one step of what is heard, every way -/
theorem heardS_hi_all {most : Nat} {xs : List Fld} {mx : Nat} {l : List Fld} {b : List UInt8} (h1 : 128 ≤ (b.headD 0).toNat) :
    (∃ E, E ≠ 0 ∧ (heardS most xs mx l b).e = E ∧ (getV b 7 = (0, 0, E) ∨ ∃ N U, getV b 7 = (N, U, 0) ∧ (N < 1 ∨ 12 + xs.length < N) ∧ E = 5)) ∨
    ∃ k U, getV b 7 = (k + 1, U, 0) ∧ k < 12 + xs.length ∧ heardS most xs mx l b = pushF xs mx l ((tAll xs).getD k ([], [])) U := by
  obtain ⟨N, U, G, hg⟩ : ∃ N U G, getV b 7 = (N, U, G) := ⟨_, _, _, rfl⟩
  unfold heardS
  simp only [if_pos h1, hg]
  by_cases e1 : G ≠ 0
  · obtain ⟨rfl, rfl⟩ := getV_fault hg e1
    left
    rw [if_pos e1]
    exact ⟨G, e1, rfl, .inl rfl⟩
  rw [if_neg e1]
  have e1' : G = 0 := Decidable.not_not.1 e1
  subst e1'
  by_cases e2 : N < 1 ∨ 12 + xs.length < N
  · left
    rw [if_pos e2]
    exact ⟨5, by omega, rfl, .inr ⟨N, U, rfl, e2, rfl⟩⟩
  · right
    rw [if_neg e2]
    obtain ⟨k, rfl⟩ : ∃ k, N = k + 1 := ⟨N - 1, by omega⟩
    exact ⟨k, U, rfl, by omega, rfl⟩
theorem heardS_mid_all {most : Nat} {xs : List Fld} {mx : Nat} {l : List Fld} {b : List UInt8} (h1 : ¬ 128 ≤ (b.headD 0).toNat) (h2 : 64 ≤ (b.headD 0).toNat) :
    (∃ f U E, E ≠ 0 ∧ (heardS most xs mx l b).e = E ∧ litV xs b 6 = (f, U, E)) ∨ ∃ f U, litV xs b 6 = (f, U, 0) ∧ heardS most xs mx l b = pushF (tAdd mx xs f) mx l f U := by
  obtain ⟨f, U, G, hg⟩ : ∃ f U G, litV xs b 6 = (f, U, G) := ⟨_, _, _, rfl⟩
  unfold heardS
  simp only [if_neg h1, if_pos h2, hg]
  by_cases e1 : G ≠ 0
  · left
    rw [if_pos e1]
    exact ⟨f, U, G, e1, rfl, rfl⟩
  · right
    rw [if_neg e1]
    exact ⟨f, U, by rw [Decidable.not_not.1 e1], rfl⟩
theorem heardS_low_all {most : Nat} {xs : List Fld} {mx : Nat} {l : List Fld} {b : List UInt8} (h1 : ¬ 128 ≤ (b.headD 0).toNat) (h2 : ¬ 64 ≤ (b.headD 0).toNat) (h3 : ¬ 32 ≤ (b.headD 0).toNat) :
    (∃ f U E, E ≠ 0 ∧ (heardS most xs mx l b).e = E ∧ litV xs b 4 = (f, U, E)) ∨ ∃ f U, litV xs b 4 = (f, U, 0) ∧ heardS most xs mx l b = pushF xs mx l f U := by
  obtain ⟨f, U, G, hg⟩ : ∃ f U G, litV xs b 4 = (f, U, G) := ⟨_, _, _, rfl⟩
  unfold heardS
  simp only [if_neg h1, if_neg h2, if_neg h3, hg]
  by_cases e1 : G ≠ 0
  · left
    rw [if_pos e1]
    exact ⟨f, U, G, e1, rfl, rfl⟩
  · right
    rw [if_neg e1]
    exact ⟨f, U, by rw [Decidable.not_not.1 e1], rfl⟩
theorem heardS_size_all {most : Nat} {xs : List Fld} {mx : Nat} {l : List Fld} {b : List UInt8} (h1 : ¬ 128 ≤ (b.headD 0).toNat) (h2 : ¬ 64 ≤ (b.headD 0).toNat) (h3 : 32 ≤ (b.headD 0).toNat) :
    (∃ E, E ≠ 0 ∧ (heardS most xs mx l b).e = E ∧ getV b 5 = (0, 0, E)) ∨ ∃ N U, getV b 5 = (N, U, 0) ∧ ((most < N ∧ (heardS most xs mx l b).e = 1) ∨ (N ≤ most ∧ 0 < l.length ∧ (heardS most xs mx l b).e = 6) ∨ (N ≤ most ∧ l = [] ∧ heardS most xs mx l b = ⟨0, shr N xs, N, l, U⟩)) := by
  obtain ⟨N, U, G, hg⟩ : ∃ N U G, getV b 5 = (N, U, G) := ⟨_, _, _, rfl⟩
  unfold heardS
  simp only [if_neg h1, if_neg h2, if_pos h3, hg]
  by_cases e1 : G ≠ 0
  · obtain ⟨rfl, rfl⟩ := getV_fault hg e1
    left
    rw [if_pos e1]
    exact ⟨G, e1, rfl, rfl⟩
  rw [if_neg e1]
  have e1' : G = 0 := Decidable.not_not.1 e1
  subst e1'
  right
  refine ⟨N, U, rfl, ?_⟩
  by_cases e2 : most < N
  · rw [if_pos e2]
    exact .inl ⟨e2, rfl⟩
  rw [if_neg e2]
  by_cases e3 : 0 < l.length
  · rw [if_pos e3]
    exact .inr (.inl ⟨by omega, e3, rfl⟩)
  · rw [if_neg e3]
    exact .inr (.inr ⟨by omega, List.eq_nil_of_length_eq_zero (by omega), rfl⟩)
theorem pushF_much {xs : List Fld} {mx : Nat} {l : List Fld} {f : Fld} {n : Nat} (h : tooMuch (l ++ [f]) = true) : pushF xs mx l f n = ⟨4, xs, mx, [], 0⟩ := by unfold pushF; rw [if_pos h]
theorem pushF_fine {xs : List Fld} {mx : Nat} {l : List Fld} {f : Fld} {n : Nat} (h : tooMuch (l ++ [f]) = false) : pushF xs mx l f n = ⟨0, xs, mx, l ++ [f], n⟩ := by unfold pushF; rw [if_neg (by rw [h]; decide)]

/-! ### the reference's coder while it hears -/
def rci (o0 o1 : Value) (A : Option Addr) (n c my most : Nat) (Sv : Value) (bad : Bool) : Array Value := #[o0, o1, .slice A n c, .int .i64 ((my : Nat) : Int), .int .i64 ((most : Nat) : Int), Sv, .bool bad]
def RIn (w : World) (M : Nat) (A : Option Addr) (c : Nat) (ys : List Fld) (my most : Nat) (bad : Bool) : Prop := ∃ o0 o1 Sv, CTab w M 136 (rci o0 o1 A ys.length c my most Sv bad) 2 A c ys my
/-- Between two pieces. -/
structure RD (O : Nat → Prop) (w wr : World) (M : Nat) (A : Option Addr) (c : Nat) (ys : List Fld) (my most : Nat) (v : Value) (acc : List Fld) : Prop where
  ri : RIn wr M A c ys my most false
  row : wr.ownsRow w.heap.size 86 2 v acc.length (fvs acc)
  kp : But M w wr
  mw : M < w.heap.size
  da : ∀ a, A = some a → v.ownBlock ≠ some a.block ∧ a.block < wr.heap.size
  fr : ∀ a, A = some a → O a.block ∨ w.heap.size ≤ a.block
/-- The same, with a field's block beside. -/
structure RDF (O : Nat → Prop) (w wr : World) (M : Nat) (A : Option Addr) (c : Nat) (ys : List Fld) (my most : Nat) (v : Value) (acc : List Fld) (F : Nat) (x y : Value) : Prop where
  d : RD O w wr M A c ys my most v acc
  fl : Blk wr F 86 #[x, y]
  vF : v.ownBlock ≠ some F
  aF : ∀ a, A = some a → a.block ≠ F
  fw : w.heap.size ≤ F
section
variable {O : Nat → Prop} {w wr w1 w2 : World} {M my most c F : Nat} {A : Option Addr} {ys acc : List Fld} {v x y : Value} {bad : Bool}
theorem RIn.below (h : RIn wr M A c ys my most bad) (hb : Below wr.heap.size wr w1) : RIn w1 M A c ys my most bad := by
  obtain ⟨o0, o1, Sv, h1⟩ := h
  exact ⟨o0, o1, Sv, h1.below hb⟩
theorem RIn.keep {S : Nat → Prop} (h : RIn wr M A c ys my most bad) (hk : Keep S wr w1) (hM : ¬ S M) (hA : ∀ a, A = some a → ¬ S a.block) : RIn w1 M A c ys my most bad := by
  obtain ⟨o0, o1, Sv, h1⟩ := h
  exact ⟨o0, o1, Sv, h1.keep hk hM hA⟩
theorem RIn.cells (h : RIn wr M A c ys my most bad) : wr.cell? ⟨M, 2, none⟩ = some (.slice A ys.length c) ∧ wr.cell? ⟨M, 3, none⟩ = some (.int .i64 ((my : Nat) : Int)) ∧ wr.cell? ⟨M, 4, none⟩ = some (.int .i64 ((most : Nat) : Int)) ∧ wr.cell? ⟨M, 6, none⟩ = some (.bool bad) ∧ (∀ j, wr.frozen? ⟨M, j, none⟩ = false) ∧ M < wr.heap.size := by
  obtain ⟨o0, o1, Sv, h1⟩ := h
  exact ⟨h1.blk.cell 2, h1.blk.cell 3, h1.blk.cell 4, h1.blk.cell 6, fun j => h1.blk.frozen j, h1.blk.lt⟩
theorem RIn.facts (h : RIn wr M A c ys my most bad) : wt ys ≤ 4096 ∧ my ≤ 4096 ∧ ys.length ≤ 128 := by
  obtain ⟨o0, o1, Sv, h1⟩ := h
  exact ⟨h1.wt, h1.mx, h1.len⟩
theorem RD.next (d : RD O w wr M A c ys my most v acc) (hb : Below wr.heap.size wr w1) : RD O w w1 M A c ys my most v acc :=
  ⟨d.ri.below hb, own_behindW d.row hb, d.kp.nx (but_of hb), d.mw, fun a ha => ⟨(d.da a ha).1, Nat.lt_of_lt_of_le (d.da a ha).2 hb.size⟩, d.fr⟩
theorem RD.fld (d : RD O w wr M A c ys my most v acc) (x y : Value) : RDF O w (wr.alloc (.cells #[x, y] 86)) M A c ys my most v acc wr.heap.size x y := by
  refine ⟨d.next ((Below.refl _ _).alloc (Nat.le_refl _) _), Blk.new wr _ _, fun e => ?_, fun a ha e => ?_, d.kp.size⟩
  · have := (d.row.lt _ e).2
    omega
  · have := (d.da a ha).2
    omega
theorem RDF.next (d : RDF O w wr M A c ys my most v acc F x y) (hb : Below wr.heap.size wr w1) : RDF O w w1 M A c ys my most v acc F x y := ⟨d.d.next hb, d.fl.below hb d.fl.lt, d.vF, d.aF, d.fw⟩
theorem RDF.put (d : RDF O w wr M A c ys my most v acc F x y) (x' y' : Value) : RDF O w ((wr.setCell ⟨F, 0, none⟩ x').setCell ⟨F, 1, none⟩ y') M A c ys my most v acc F x' y' := by
  have hk : Keep (fun k => k = F) wr ((wr.setCell ⟨F, 0, none⟩ x').setCell ⟨F, 1, none⟩ y') := ((Keep.refl (fun k => k = F) wr).setCell (p := ⟨F, 0, none⟩) (.inl rfl) _).setCell (p := ⟨F, 1, none⟩) (.inl rfl) _
  have e1 := d.d.mw
  have e2 := d.fw
  refine ⟨⟨d.d.ri.keep hk (by omega) fun a ha he => d.aF a ha he, ownRow_keep d.d.row hk fun k hk he => d.vF (he ▸ hk), d.d.kp.trans hk fun i hi => .inr (by omega), d.d.mw, fun a ha => ⟨(d.d.da a ha).1, Nat.lt_of_lt_of_le (d.d.da a ha).2 hk.size⟩, d.d.fr⟩, ?_, d.vF, d.aF, d.fw⟩
  have := (d.fl.set_ 0 x').set_ 1 y'
  simpa using this
theorem RDF.cells (d : RDF O w wr M A c ys my most v acc F x y) : wr.cell? ⟨F, 0, none⟩ = some x ∧ wr.cell? ⟨F, 1, none⟩ = some y ∧ wr.frozen? ⟨F, 0, none⟩ = false ∧ wr.frozen? ⟨F, 1, none⟩ = false ∧ F < wr.heap.size :=
  ⟨d.fl.cell 0, d.fl.cell 1, d.fl.frozen 0, d.fl.frozen 1, d.fl.lt⟩
theorem rdf_add (d : RDF O w wr M A c ys my most v acc F x y) (f : Fld) (hf : fOk f) :
    Calls Tryd.prog 46 #[.pointer (some ⟨M, 2, none⟩), .agg #[.string ⟨f.1.toArray⟩, .string ⟨f.2.toArray⟩]] wr fun e w' => (∃ u, e = .returned u) ∧ ∃ A2 c2, RDF O w w' M A2 c2 (tAdd my ys f) my most v acc F x y := by
  obtain ⟨⟨o0, o1, Sv, h1⟩, row, kp, mw, da, fr⟩ := d.d
  refine (cadd_any h1 f hf).mono ?_
  rintro e w' ⟨he, A2, c2, h7, h8, h9⟩
  have e2 := d.fw
  refine ⟨⟨_, he⟩, A2, c2, ⟨⟨o0, o1, Sv, h7⟩, ownRow_keep row h8 fun k hk he => ?_, kp.nx h8, mw, fun a ha => ⟨fun e => ?_, (h9 a ha).2⟩, fun a ha => .inr (Nat.le_trans kp.size (h9 a ha).1)⟩, d.fl.keep h8 (by omega), d.vF, fun a ha he => ?_, d.fw⟩
  · have := (row.lt k hk).1
    omega
  · have e1 := (row.lt _ e).2
    have e2 := (h9 a ha).1
    omega
  · have e1 := (h9 a ha).1
    have e3 := d.fl.lt
    omega
/-- The greatest size is set. -/
theorem RD.max (d : RD O w wr M A c ys my most v acc) (m : Nat) (hm : m ≤ 4096) : RD O w (wr.setCell ⟨M, 3, none⟩ (.int .i64 (m : Int))) M A c ys m most v acc := by
  obtain ⟨⟨o0, o1, Sv, h1⟩, row, kp, mw, da, fr⟩ := d
  have hk : But M wr (wr.setCell ⟨M, 3, none⟩ (.int .i64 (m : Int))) := (Keep.refl (fun k => k = M) wr).setCell (p := ⟨M, 3, none⟩) (.inl rfl) _
  exact ⟨⟨o0, o1, Sv, h1.putMx m hm⟩, ownRow_keep row hk fun k hk he => by have := (row.lt k hk).1; omega, kp.nx hk, mw, fun a ha => ⟨(da a ha).1, Nat.lt_of_lt_of_le (da a ha).2 hk.size⟩, fr⟩
theorem rd_shrink (d : RD O w wr M A c ys my most v acc) (m : Nat) (hm : m ≤ 4096) :
    Calls Tryd.prog 47 #[.pointer (some ⟨M, 2, none⟩), .int .i64 (m : Int)] wr fun e w' => e = .returned (.tuple #[]) ∧ RD O w w' M A c (shr m ys) my most v acc := by
  obtain ⟨⟨o0, o1, Sv, h1⟩, row, kp, mw, da, fr⟩ := d
  refine (cshrink_any h1 m hm).mono ?_
  rintro e w' ⟨he, h7, h8⟩
  exact ⟨he, ⟨o0, o1, Sv, h7⟩, ownRow_keep row h8 fun k hk he => by have := (row.lt k hk).1; omega, kp.nx h8, mw, fun a ha => ⟨(da a ha).1, Nat.lt_of_lt_of_le (da a ha).2 h8.size⟩, fr⟩
theorem rd_all (d : RD O w wr M A c ys my most v acc) :
    Calls Tryd.prog 51 #[.pointer (some ⟨M, 2, none⟩)] wr fun e w' => ∃ B d, e = .returned (.slice B (tAll ys).length d) ∧ (tAll ys).length ≤ d ∧ Reads w' w'.heap.size 2 B (tAll ys).length (fvs (tAll ys)) ∧ Below wr.heap.size wr w' := by
  obtain ⟨⟨o0, o1, Sv, h1⟩, _⟩ := d
  exact call_any h1
/-- Behind an append. -/
theorem RD.push (d : RD O w wr M A c ys my most v acc) (f : Fld) {v2 : Value} (hown : w2.ownsRow w.heap.size 86 2 v2 (acc.length + 1) (fvs acc ++ fv f)) (hg : wr.grownBy w2 v.ownBlock) (hv : v2.ownBlock = v.ownBlock ∨ v2.ownBlock = some wr.heap.size) : RD O w w2 M A c ys my most v2 (acc ++ [f]) := by
  have hk : Keep (fun k => v.ownBlock = some k) wr w2 := (Keep.refl (fun k => v.ownBlock = some k) wr).grown hg fun k hk => .inl hk
  have hvw : ∀ k, v.ownBlock = some k → w.heap.size ≤ k := fun k hk => (d.row.lt k hk).1
  have e1 := d.mw
  refine ⟨d.ri.keep hk (fun e => by have := hvw M e; omega) fun a ha => (d.da a ha).1, ?_, d.kp.trans hk fun i hi => .inr (hvw i hi), d.mw, fun a ha => ⟨fun e => ?_, Nat.lt_of_lt_of_le (d.da a ha).2 hk.size⟩, d.fr⟩
  · rw [List.length_append, fvs_append]
    simpa [fvs] using hown
  · rcases hv with e3 | e3
    · exact (d.da a ha).1 (by rw [← e3]; exact e)
    · rw [e3] at e
      have := (d.da a ha).2
      injection e with e
      omega
end
/-- What decode leaves of the coder. -/
def RInDone (O : Nat → Prop) (w w' : World) (M : Nat) (ys' : List Fld) (my' most : Nat) (bad : Bool) : Prop := (∃ A' c', RIn w' M A' c' ys' my' most bad ∧ ∀ a, A' = some a → a.block < w'.heap.size ∧ (O a.block ∨ w.heap.size ≤ a.block)) ∧ But M w w'
def RInBad (w w' : World) (M : Nat) (bad : Bool) : Prop := (∃ a0 a1 a2 a3 a4 a5, Blk w' M 136 #[a0, a1, a2, a3, a4, a5, .bool bad]) ∧ But M w w'
theorem RD.bad {O : Nat → Prop} {w wr : World} {M my most c : Nat} {A : Option Addr} {ys acc : List Fld} {v : Value} (d : RD O w wr M A c ys my most v acc) : RInBad w wr M false := by
  obtain ⟨⟨o0, o1, Sv, h1⟩, row, kp, mw, da, fr⟩ := d
  exact ⟨⟨_, _, _, _, _, _, h1.blk⟩, kp⟩
theorem RD.done {O : Nat → Prop} {w wr : World} {M my most c : Nat} {A : Option Addr} {ys acc : List Fld} {v : Value} (d : RD O w wr M A c ys my most v acc) : RInDone O w wr M ys my most false := ⟨⟨A, c, d.ri, fun a ha => ⟨(d.da a ha).2, d.fr a ha⟩⟩, d.kp⟩
end Go.Proofs.YtkbbkamnmdeagaaDoor
