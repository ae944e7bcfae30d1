/-
  fields.Ask, of a list that begins as fields.List's do. Condition: no other name begins with a colon, none is host or length; bounds; the table of powers does not matter.
  fields.Ask: the walk. Condition: no name behind the first three begins with a colon, none is host or length; bounds.
  TopLines: the plain part: what names the fields have, what is between two sides. Condition: the fields are such as line lets through.
  strconv.AppendInt at four, base sixteen. Condition: the table of de Bruijn lies.
-/
import Derived.Test.YtbgnggkgmeagkaaGreatDoorMTopLines23
import Derived.Deep.QuietTactic
import Derived.BigQuiet
import Derived.Test.YtbgnggkgmeagkaaGreatDoorMTopLines13
import Derived.Test.YtbgnggkgmeagkaaGreatDoorMTopLines14
import Derived.Test.YtbgnggkgmeagkaaGreatDoorMTopLines22
import Derived.LoopN
set_option linter.unusedSimpArgs false
set_option linter.unusedVariables false
namespace Go.Proofs.YtbgnggkgmeagkaaGreatDoor
open Go.RowKit

theorem keep_of_but {w w' : World} {g : Nat} (h : BelowBut w.heap.size g w w') : Keep (fun k => k = g) w w' := ⟨h.os, h.tape, h.output, h.size, fun k hk hs => h.block k hk hs⟩
theorem own_setAt {w : World} {base size n g cap j : Nat} {e : TypeId} {xs : List Value} (h : w.ownsRow base e size (.slice (some ⟨g, 0, none⟩) n cap) n xs) (hj : j < n * size) (u : Value) : (w.setCell ⟨g, j, none⟩ u).ownsRow base e size (.slice (some ⟨g, 0, none⟩) n cap) n (xs.set j u) := by
  refine ⟨by rw [List.length_set]; exact h.1, ?_⟩
  rcases h.2 with ⟨hv, _⟩ | ⟨g', cap', cur, hv, hB, hh, hc, hm, hs, hx⟩
  · cases hv
  · cases hv
    refine .inr ⟨g, cap, cur.setIfInBounds j u, rfl, hB, ?_, hc, hm, by simpa using hs, ?_⟩
    · simp [World.setCell, Array.getElem?_modify, hh]
    · rw [← hx, Array.toList_setIfInBounds, List.take_set]
theorem own_frozen {w : World} {base size n g cap : Nat} {e : TypeId} {xs : List Value} (h : w.ownsRow base e size (.slice (some ⟨g, 0, none⟩) n cap) n xs) (j : Nat) : w.frozen? ⟨g, j, none⟩ = false ∧ g < w.heap.size := by
  rcases h.2 with ⟨hv, _⟩ | ⟨g', cap', cur, hv, hB, hh, hc, hm, hs, hx⟩
  · cases hv
  · cases hv
    exact ⟨Blk.frozen (t := e) (cs := cur) hh j, Blk.lt (t := e) (cs := cur) hh⟩
theorem results_cell_tmp1 {P : Program} {fn : Func} {p u : Tmp} {ty : TypeId} (h : fn.results = #[.cell p ty, .tmp u]) (tmps : Array Value) (w : World) (g : Nat) (t : TypeId) (cs : Array Value) (d : TypeDesc)
    (hp : tmps.getD p undef = .pointer (some ⟨g, 0, none⟩)) (hg : Blk w g t cs)
    (hu : P.underlying ty = some d) (hd : (match d with | .struct _ | .array _ _ => true | _ => false) = true) (hi : (P.info? ty).map (·.size) = some cs.size) :
    (results fn tmps).run P w = .ok (.tuple #[.agg cs, tmps.getD u undef]) w := by
  have hp' : tmps[p]?.getD undef = .pointer (some ⟨g, 0, none⟩) := by simpa using hp
  simp [results, h, hp', asAddr, run_loadVar_row w g t ty cs (0, 0) d hg hu hd hi]
structure AkSt (w w2 wr : World) (G : Nat) (m p h : List UInt8) (v3 bv : Value) (b : List UInt8) (xs : List Fld) : Prop where
  g : Blk wr G 25 #[.string ⟨m.toArray⟩, .string ⟨p.toArray⟩, .string ⟨h.toArray⟩, v3, bv]
  own : wr.ownsRow w2.heap.size 41 2 v3 xs.length (fvs xs)
  ob : wr.ownsRow w.heap.size 5 1 bv b.length (bs b)
  bw : BelowBut w2.heap.size G w2 wr
  gl : G < w2.heap.size
  bl : ∀ k, bv.ownBlock = some k → k < w2.heap.size
theorem AkSt.kept {w w2 wr w1 : World} {G : Nat} {m p h : List UInt8} {v3 bv : Value} {b : List UInt8} {xs : List Fld} (H : AkSt w w2 wr G m p h v3 bv b xs) (hb : Below wr.heap.size wr w1) : AkSt w w2 w1 G m p h v3 bv b xs :=
  ⟨H.g.below hb H.g.lt, ownRow_keep H.own (Keep.of_below (S := fun _ => False) hb) (fun _ _ h => h), ownRow_keep H.ob (Keep.of_below (S := fun _ => False) hb) (fun _ _ h => h), H.bw.trans (BelowBut.of (hb.mono H.bw.size)), H.gl, H.bl⟩
/-- The fields' slice laid anew. -/
theorem AkSt.put {w w2 wr : World} {G : Nat} {m p h : List UInt8} {v3 v4 bv : Value} {b : List UInt8} {xs ys : List Fld} {W : World} (H : AkSt w w2 wr G m p h v3 bv b xs) (hg : wr.grownBy W v3.ownBlock) (hown : W.ownsRow w2.heap.size 41 2 v4 ys.length (fvs ys)) :
    AkSt w w2 (W.setCell ⟨G, 3, none⟩ v4) G m p h v4 bv b ys ∧ W.cell? ⟨G, 3, none⟩ = some v3 ∧ W.frozen? ⟨G, 3, none⟩ = false ∧ G < W.heap.size := by
  have hn1 : v3.ownBlock ≠ some G := own_blk_ne H.own H.g (by decide)
  have hn2 : bv.ownBlock ≠ some G := own_blk_ne H.ob H.g (by decide)
  have hgW : Blk W G 25 #[.string ⟨m.toArray⟩, .string ⟨p.toArray⟩, .string ⟨h.toArray⟩, v3, bv] := H.g.grown hg (fun e => hn1 e.symm)
  have hobW : W.ownsRow w.heap.size 5 1 bv b.length (bs b) := H.ob.kept hg (by
    cases hv : bv.ownBlock with
    | none => exact .inl rfl
    | some k =>
      right
      intro e
      have h1 := H.bl k hv
      have h2 := (H.own.lt k (by rw [← e])).1
      omega)
  have hbW : BelowBut w2.heap.size G w2 W := H.bw.trans ⟨hg.os, hg.tape, hg.output, hg.size, fun k hk _ => hg.block k (Nat.lt_of_lt_of_le hk H.bw.size) (fun e => by have := (H.own.lt k e.symm).1; omega)⟩
  refine ⟨⟨?_, own_setLow hown (p := ⟨G, 3, none⟩) H.gl v4, ?_, hbW.setCell (p := ⟨G, 3, none⟩) (.inl rfl) v4, H.gl, H.bl⟩, hgW.cell 3, hgW.frozen 3, hgW.lt⟩
  · simpa using hgW.set_ 3 v4
  · exact hobW.kept (row := some G) ⟨rfl, rfl, rfl, by simp [World.setCell], fun k _ hk => Below.heap_setCell _ _ _ _ (fun e => hk (by simp [e]))⟩ (.inr hn2)
/-- One value of the fields' slice laid anew. -/
theorem AkSt.at_ {w w2 wr : World} {G g cap : Nat} {m p h : List UInt8} {bv : Value} {b : List UInt8} {xs : List Fld} (H : AkSt w w2 wr G m p h (.slice (some ⟨g, 0, none⟩) xs.length cap) bv b xs) (i : Nat) (hi : i < xs.length) (x : List UInt8) :
    AkSt w w2 (wr.setCell ⟨g, i * 2 + 1, none⟩ (.string ⟨(xs[i].2 ++ (sepC ++ x)).toArray⟩)) G m p h (.slice (some ⟨g, 0, none⟩) (addTo xs i x).length cap) bv b (addTo xs i x) := by
  have hgB := (H.own.lt g rfl).1
  have hgG : g ≠ G := by have := H.gl; omega
  refine ⟨by rw [addTo_len]; exact H.g.far (fun e => hgG e.symm) _, ?_, ?_, H.bw.setCell (p := ⟨g, i * 2 + 1, none⟩) (.inr hgB) _, H.gl, H.bl⟩
  · rw [addTo_len, addTo_fvs xs i x hi]
    exact own_setAt H.own (by omega) _
  · refine H.ob.kept (row := some g) ⟨rfl, rfl, rfl, by simp [World.setCell], fun k _ hk => Below.heap_setCell _ _ _ _ (fun e => hk (by simp [e]))⟩ (.inr fun e => ?_)
    have := H.bl g e
    omega
end Go.Proofs.YtbgnggkgmeagkaaGreatDoor
namespace Go.Proofs.YtbgnggkgmeagkaaGreatDoor
open Go.RowKit

def restOk (rest : List Fld) : Prop := ∀ f ∈ rest, (∀ y, f.1.head? = some y → y ≠ 58) ∧ f.1 ≠ hostL ∧ f.1 ≠ lengthL ∧ f.1.length ≤ 1000000
abbrev zReq : Array Value := #[.string ⟨#[]⟩, .string ⟨#[]⟩, .string ⟨#[]⟩, .slice none 0 0, .slice none 0 0]
/-- What is gathered so far: the state behind k fields. -/
def acK (rest : List Fld) (k : Nat) : Acc := accL ⟨[], none⟩ (rest.take k)
theorem acK_zero (rest : List Fld) : acK rest 0 = ⟨[], none⟩ := rfl
theorem acK_succ (rest : List Fld) {k : Nat} (h : k < rest.length) : acK rest (k + 1) = accF (acK rest k) rest[k] := accL_take _ rest h
theorem acK_all (rest : List Fld) : acK rest rest.length = accL ⟨[], none⟩ rest := by unfold acK; rw [List.take_length]
theorem tot_take (l : List Fld) (k : Nat) : tot (l.take k) ≤ tot l := by
  have h := tot_append (l.take k) (l.drop k)
  rw [List.take_append_drop] at h
  omega
theorem acK_ok (rest : List Fld) (k : Nat) : ckOk (acK rest k) ∧ tot (acK rest k).l ≤ tot rest ∧ (acK rest k).l.length ≤ k := by
  refine ⟨ckOk_accL _ _ (fun i h => by cases h), ?_, ?_⟩
  · have h1 := tot_accL (rest.take k) ⟨[], none⟩
    have h2 := tot_take rest k
    have h3 : tot ([] : List Fld) = 0 := rfl
    unfold acK
    simp only [h3] at h1
    omega
  · have h1 := accL_len (rest.take k) ⟨[], none⟩
    have h2 : (rest.take k).length ≤ k := List.length_take_le _ _
    unfold acK
    simp only [List.length_nil] at h1
    omega
theorem set5z {w : World} {g : Nat} (h : Blk w g 25 zReq) {B : Nat} {w0 : World} (hb : Below B w0 w) (hg : B ≤ g) : Blk (((((w.setCell ⟨g, 0, none⟩ (.string ⟨#[]⟩)).setCell ⟨g, 1, none⟩ (.string ⟨#[]⟩)).setCell ⟨g, 2, none⟩ (.string ⟨#[]⟩)).setCell ⟨g, 3, none⟩ (.slice none 0 0)).setCell ⟨g, 4, none⟩ (.slice none 0 0)) g 25 zReq ∧
    Below B w0 (((((w.setCell ⟨g, 0, none⟩ (.string ⟨#[]⟩)).setCell ⟨g, 1, none⟩ (.string ⟨#[]⟩)).setCell ⟨g, 2, none⟩ (.string ⟨#[]⟩)).setCell ⟨g, 3, none⟩ (.slice none 0 0)).setCell ⟨g, 4, none⟩ (.slice none 0 0)) :=
  ⟨blk_same5 h, ((((hb.setCell (p := ⟨g, 0, none⟩) hg _).setCell (p := ⟨g, 1, none⟩) hg _).setCell (p := ⟨g, 2, none⟩) hg _).setCell (p := ⟨g, 3, none⟩) hg _).setCell (p := ⟨g, 4, none⟩) hg _⟩
theorem own_set_ne {w : World} {base size n g : Nat} {e : TypeId} {v : Value} {xs : List Value} (ho : w.ownsRow base e size v n xs) (hne : v.ownBlock ≠ some g) (i : Nat) (u : Value) : (w.setCell ⟨g, i, none⟩ u).ownsRow base e size v n xs :=
  ho.kept (row := some g) ⟨rfl, rfl, rfl, by simp [World.setCell], fun k _ hk => Below.heap_setCell _ _ _ _ (fun e => hk (by simp [e]))⟩ (.inr hne)
theorem own_set5 {w : World} {base size n g : Nat} {e : TypeId} {v : Value} {xs : List Value} (ho : w.ownsRow base e size v n xs) (hne : v.ownBlock ≠ some g) (a0 a1 a2 a3 a4 : Value) : (((((w.setCell ⟨g, 0, none⟩ a0).setCell ⟨g, 1, none⟩ a1).setCell ⟨g, 2, none⟩ a2).setCell ⟨g, 3, none⟩ a3).setCell ⟨g, 4, none⟩ a4).ownsRow base e size v n xs := by
  have h0 := own_set_ne ho hne 0 a0
  have h1 := own_set_ne h0 hne 1 a1
  have h2 := own_set_ne h1 hne 2 a2
  have h3 := own_set_ne h2 hne 3 a3
  exact own_set_ne h3 hne 4 a4
theorem blk_set5 {w : World} {g : Nat} {b0 b1 b2 b3 b4 : Value} (h : Blk w g 25 #[b0, b1, b2, b3, b4]) (a0 a1 a2 a3 a4 : Value) {B : Nat} {w0 : World} (hb : Below B w0 w) (hg : B ≤ g) : Blk (((((w.setCell ⟨g, 0, none⟩ a0).setCell ⟨g, 1, none⟩ a1).setCell ⟨g, 2, none⟩ a2).setCell ⟨g, 3, none⟩ a3).setCell ⟨g, 4, none⟩ a4) g 25 #[a0, a1, a2, a3, a4] ∧
    Below B w0 (((((w.setCell ⟨g, 0, none⟩ a0).setCell ⟨g, 1, none⟩ a1).setCell ⟨g, 2, none⟩ a2).setCell ⟨g, 3, none⟩ a3).setCell ⟨g, 4, none⟩ a4) :=
  ⟨by simpa using ((((h.set_ 0 a0).set_ 1 a1).set_ 2 a2).set_ 3 a3).set_ 4 a4, ((((hb.setCell (p := ⟨g, 0, none⟩) hg _).setCell (p := ⟨g, 1, none⟩) hg _).setCell (p := ⟨g, 2, none⟩) hg _).setCell (p := ⟨g, 3, none⟩) hg _).setCell (p := ⟨g, 4, none⟩) hg _⟩
set_option maxRecDepth 100000 in
set_option maxHeartbeats 4000000 in
theorem fask_any (m p h : List UInt8) (rest : List Fld) (b : List UInt8) (hm : m.length ≤ 1000000) (hp : p.length ≤ 1000000) (hh : h.length ≤ 1000000) (hro : restOk rest) (hrl : rest.length ≤ 1000) (htot : tot rest ≤ 1000000) (hbl : b.length ≤ 1000000) (LA : Option Addr) (n c : Nat) (hn : n = (listL m p h []).length + rest.length) (BA : Option Addr) (bn bc : Nat) (hbn : bn = b.length) (hbc : BA = none → bc = 0) (w : World)
    (hr : Reads w w.heap.size 2 LA (rest.length + 3) (fvs ((methL, m) :: (pathL, p) :: (chostL, h) :: rest))) (hrb : Reads w w.heap.size 1 BA b.length (bs b)) :
    Calls Tryz.prog 12 #[.slice LA n c, .slice BA bn bc] w (FaPost w m p h rest b) := by
  subst hbn
  have hn3 : n = rest.length + 3 := by rw [hn]; simp [listL, expL]; omega
  subst hn3
  obtain ⟨W0, hW0⟩ : ∃ W0, w.alloc (.cells zReq 25) = W0 := ⟨_, rfl⟩
  have hb0 : Below w.heap.size w W0 := by rw [← hW0]; exact (Below.refl _ _).alloc (Nat.le_refl _) _
  have hR0 : Blk W0 w.heap.size 25 zReq := by rw [← hW0]; exact Blk.new w _ _
  have hs0 : W0.heap.size = w.heap.size + 1 := by rw [← hW0]; simp
  have HC := Lib.hid (clone_any BA b b.length bc rfl hbc (by omega) W0 ((hrb.below hb0).more hb0.size))
  have HB0 := Lib.hid hb0
  have HR0 := Lib.hid hR0
  have HS0 := Lib.hid hs0
  have HR := Lib.hid hr
  have HRO := Lib.hid hro
  clear hr hrb hb0 hR0 hs0 hro hn
  go_enter Tryz.func12, Tryz.ntmps12
  go_wp2_with fail
  refine HC.out.mono ?_
  rintro e w1 ⟨A1, c1, rfl, ho1, hb1⟩
  have hbw1 : Below w.heap.size w w1 := HB0.out.trans (hb1.mono HB0.out.size)
  have hR1 : Blk w1 w.heap.size 25 zReq := HR0.out.below hb1 HR0.out.lt
  obtain ⟨X1, hX1⟩ : ∃ X1, w1.alloc (.cells #[.string ⟨#[]⟩, .string ⟨#[]⟩, .string ⟨#[]⟩, .slice none 0 0, .slice A1 b.length c1] 25) = X1 := ⟨_, rfl⟩
  have hsX : X1.heap.size = w1.heap.size + 1 := by rw [← hX1]; simp
  have hbX : Below w1.heap.size w1 X1 := by rw [← hX1]; exact (Below.refl _ _).alloc (Nat.le_refl _) _
  have hgX : Blk X1 w1.heap.size 25 (gC m p h (.slice none 0 0) (.slice A1 b.length c1) 0) := by rw [← hX1]; exact Blk.new w1 _ _
  have q0 := run_makeMap_plain (P := Tryz.prog) X1 105
  rw [hsX] at q0
  obtain ⟨X2, hX2⟩ : ∃ X2, X1.alloc (.map #[] 0) = X2 := ⟨_, rfl⟩
  rw [hX2] at q0
  have hbX2 : Below X1.heap.size X1 X2 := by rw [← hX2]; exact (Below.refl _ _).alloc (Nat.le_refl _) _
  have hmX2 : IsMap X2 (w1.heap.size + 1) #[] 0 := by rw [← hX2, ← hsX]; exact heap_alloc_new X1 _
  obtain ⟨X3, hX3⟩ : ∃ X3, putM X2 (w1.heap.size + 1) #[⟨.string ⟨methL.toArray⟩, .pointer (some ⟨w1.heap.size, 0, none⟩), 0⟩] 1 = X3 := ⟨_, rfl⟩
  have q1 : (Instr.mapUpdate 105 (.map (some (w1.heap.size + 1))) (.string ⟨#[58, 109, 101, 116, 104, 111, 100]⟩) (.pointer (some ⟨w1.heap.size, 0, none⟩))).run Tryz.prog X2 = .ok () X3 := by
    rw [← hX3]
    exact run_upd_new (P := Tryz.prog) Tryz.underlying105 Tryz.underlying9 rfl hmX2 (by rfl) _
  have hmX3 := putM_same (es := #[⟨.string ⟨methL.toArray⟩, .pointer (some ⟨w1.heap.size, 0, none⟩), 0⟩]) (c := 1) hmX2
  rw [hX3] at hmX3
  obtain ⟨X4, hX4⟩ : ∃ X4, putM X3 (w1.heap.size + 1) #[⟨.string ⟨methL.toArray⟩, .pointer (some ⟨w1.heap.size, 0, none⟩), 0⟩, ⟨.string ⟨pathL.toArray⟩, .pointer (some ⟨w1.heap.size, 1, none⟩), 1⟩] 2 = X4 := ⟨_, rfl⟩
  have q2 : (Instr.mapUpdate 105 (.map (some (w1.heap.size + 1))) (.string ⟨#[58, 112, 97, 116, 104]⟩) (.pointer (some ⟨w1.heap.size, 1, none⟩))).run Tryz.prog X3 = .ok () X4 := by
    rw [← hX4]
    exact run_upd_new (P := Tryz.prog) Tryz.underlying105 Tryz.underlying9 rfl hmX3 (by rfl) _
  have hmX4 := putM_same (es := #[⟨.string ⟨methL.toArray⟩, .pointer (some ⟨w1.heap.size, 0, none⟩), 0⟩, ⟨.string ⟨pathL.toArray⟩, .pointer (some ⟨w1.heap.size, 1, none⟩), 1⟩]) (c := 2) hmX3
  rw [hX4] at hmX4
  obtain ⟨X5, hX5⟩ : ∃ X5, putM X4 (w1.heap.size + 1) (toE w1.heap.size) 3 = X5 := ⟨_, rfl⟩
  have q3 : (Instr.mapUpdate 105 (.map (some (w1.heap.size + 1))) (.string ⟨#[58, 104, 111, 115, 116]⟩) (.pointer (some ⟨w1.heap.size, 2, none⟩))).run Tryz.prog X4 = .ok () X5 := by
    rw [← hX5]
    exact run_upd_new (P := Tryz.prog) Tryz.underlying105 Tryz.underlying9 rfl hmX4 (by rfl) _
  have hmX5 : IsMap X5 (w1.heap.size + 1) (toE w1.heap.size) 3 := by rw [← hX5]; exact putM_same hmX4
  have hb15 : Below (w1.heap.size + 1) X1 X5 := by
    rw [← hX5, ← hX4, ← hX3]
    exact putM_below (putM_below (putM_below (hbX2.mono (by omega)) (Nat.le_refl _)) (Nat.le_refl _)) (Nat.le_refl _)
  have hgX5 : Blk X5 w1.heap.size 25 (gC m p h (.slice none 0 0) (.slice A1 b.length c1) 0) := (hb15.block _ (by omega)).trans hgX
  have hbw5 : Below w1.heap.size w1 X5 := hbX.trans (hb15.mono (by omega))
  have hrX5 := HR.out.below (hbw1.trans (hbw5.mono hbw1.size))
  have hs5 := hb15.size
  have HPS := Lib.hid (pseudo_ok m p h rest (fun f hf => (HRO.out f hf).1) (by omega) w1.heap.size (w1.heap.size + 1) (.slice none 0 0) (.slice A1 b.length c1) LA (rest.length + 3) c rfl X5 (hrX5.more (Nat.le_trans hbw1.size (by omega))) (fun ad e => by
    obtain ⟨ad', e', hB, _⟩ := HR.out.2 (by omega)
    rw [e] at e'
    cases e'
    have := hbw1.size
    omega) hgX5 hmX5)
  have HR5 := Lib.hid ((hbw5.block _ hR1.lt).trans hR1)
  have HO5 := Lib.hid (ownRow_keep ho1 (Keep.of_below (S := fun _ => False) hbw5) (fun _ _ h => h))
  have HBW5 := Lib.hid (hbw1.trans (hbw5.mono hbw1.size))
  have HS1 := Lib.hid hbw1.size
  have HS01 := Lib.hid (show w.heap.size < w1.heap.size from hR1.lt)
  have HS5 := Lib.hid hs5
  have HSX := Lib.hid hsX
  have HOL := Lib.hid (fun k hk => (ho1.lt k hk).2)
  have HGX5 := Lib.hid hgX5
  clear ho1 hb1 hbw1 hR1 hsX hbX hgX hX2 hbX2 hmX2 hX3 hmX3 hX4 hmX4 hX5 hmX5 hb15 hgX5 hbw5 hrX5 hs5 hW0
  go_wp2_with fail
  refine HPS.out.mono ?_
  rintro e w2 ⟨RA, rc, rfl, hor, hg2, hb2⟩
  have hGX := HSX.out
  have hGS := HS5.out
  have hS1 := HS1.out
  have hsz2 := hb2.size
  have hS2 : AkSt w w2 w2 w1.heap.size m p h (.slice none 0 0) (.slice A1 b.length c1) b [] := by
    refine ⟨hg2, World.ownsRow_nil _ _ _ _, ?_, BelowBut.refl _ _ _, by omega, fun k hk => by have := HOL.out k hk; omega⟩
    have h9 := own_down HO5.out (show w.heap.size ≤ W0.heap.size by have := HS0.out; omega)
    refine ownRow_keep h9 (keep_of_but hb2) fun k hk he => ?_
    have := own_blk_ne h9 HGX5.out (by decide)
    rw [he] at hk
    exact this hk
  have hR2 : Blk w2 w.heap.size 25 zReq := (hb2.block _ (Blk.lt HR5.out) (by have := HS01.out; omega)).trans HR5.out
  have hbw2 : Below w.heap.size w w2 := HBW5.out.trans (hb2.below (by omega) (by omega))
  have HS2 := Lib.hid hS2
  have HR2 := Lib.hid hR2
  have HBW2 := Lib.hid hbw2
  have HRR := Lib.hid (Reads.of_own hor)
  have HRN := Lib.hid (show ∀ ad, RA = some ad → 0 < rest.length → ad.block ≠ w1.heap.size from fun ad e h0 he => by
    obtain ⟨g, cap, hv, hB, hlt⟩ := hor.form h0
    rw [e] at hv
    cases hv
    simp only at he
    omega)
  clear hor hg2 hb2 hGX hGS hS1 hsz2 hS2 hR2 hbw2 q0 q1 q2 q3
  go_wp2_with fail
  go_loopg [9, 32] rest.length (fun mm v9 i wr => ∃ (k : Nat) (v3 : Value), mm + k = rest.length ∧ v9 = ckV (acK rest k).ck ∧ i = .int .i64 ((k : Nat) : Int) ∧ Hid (AkSt w w2 wr w1.heap.size m p h v3 (.slice A1 b.length c1) b (acK rest k).l) ∧ Hid (∀ f ∈ rest.take k, isBetween f.1 = false))
  case atStart => exact ⟨0, _, rfl, rfl, rfl, HS2.out, (fun f hf => by cases hf)⟩
  case round =>
    clear HS2
    obtain ⟨k, v3, hk, rfl, rfl, HS, HNB⟩ := hrel
    have HK := Lib.hid hk
    have hkl : k ≤ rest.length := by omega
    clear hk
    have hS01 := HS01.out
    have hwz := HS.out.bw.size
    have hgl := HS.out.gl
    have HRk := Lib.hid (show Blk wr w.heap.size 25 zReq from (HS.out.bw.block _ (Blk.lt HR2.out) (by omega)).trans HR2.out)
    have HBk := Lib.hid (show Below w.heap.size w wr from HBW2.out.trans (HS.out.bw.below HBW2.out.size (by omega)))
    obtain ⟨hko, hkt, hkn⟩ := acK_ok rest k
    by_cases hlt : k < rest.length
    · have hrw := reads_butG HRR.out HRN.out HS.out.bw
      obtain ⟨bb, off, hA, hbB, hcl⟩ := reads_fld hrw (by omega)
      subst hA
      obtain ⟨c0, cc1⟩ := hcl k hlt
      have hki : ((k : Nat) : Int) < ((rest.length : Nat) : Int) := by omega
      have hbw : bb < wr.heap.size := Nat.lt_of_lt_of_le hbB hwz
      obtain ⟨-, z1, z2, z3⟩ := HRO.out rest[k] (List.getElem_mem hlt)
      have hsuc := acK_succ rest hlt
      have htm := tot_mem rest rest[k] (List.getElem_mem hlt)
      have htk : rest.take (k + 1) = rest.take k ++ [rest[k]] := List.take_succ_eq_append_getElem hlt
      have hmem := List.getElem_mem hlt
      obtain ⟨f, hfk⟩ : ∃ f, rest[k] = f := ⟨_, rfl⟩
      rw [hfk] at c0 cc1 z1 z2 z3 hsuc htm htk hmem
      obtain ⟨f1, f2⟩ := f
      simp only at c0 cc1 z1 z2 z3 htm
      have e1 : (f1 == [104, 111, 115, 116]) = false := beq_eq_false_iff_ne.2 z1
      have e2 : (f1 == [108, 101, 110, 103, 116, 104]) = false := beq_eq_false_iff_ne.2 z2
      obtain ⟨WA, hWA⟩ : ∃ WA, wr.alloc (.cells #[.string ⟨f1.toArray⟩, .string ⟨f2.toArray⟩] 41) = WA := ⟨_, rfl⟩
      have hfl : Blk WA wr.heap.size 41 #[.string ⟨f1.toArray⟩, .string ⟨f2.toArray⟩] := by rw [← hWA]; exact Blk.new wr _ _
      have hba : Below wr.heap.size wr WA := by rw [← hWA]; exact (Below.refl _ _).alloc (Nat.le_refl _) _
      have dA0 := hfl.cell 0
      have dAl := hfl.lt
      have HFL := Lib.hid hfl
      have HBA := Lib.hid hba
      have HSUC := Lib.hid hsuc
      have HTK := Lib.hid htk
      have HBT := Lib.hid (between_any f1)
      have HMEM := Lib.hid hmem
      clear hcl hbB hfk z1 z2 hsuc htk hmem hfl hba hrw
      cases hbt : isBetween f1 with
      | true =>
        rw [hbt] at HBT
        have HX := Lib.hid hbt
        clear hbt
        go_wp2_with fail
        refine quiet_in (fun w' => Below WA.heap.size WA w') (by kernel_rfl) (by kernel_rfl) ?_ fun hne => ?_
        · exact (Below.refl _ _).drew
        have y0 : ∀ x : WIn (fun w' => Below WA.heap.size WA w'), x.w.cell? ⟨wr.heap.size, 0, none⟩ = some (.string ⟨f1.toArray⟩) := fun x => (HFL.out.below x.h HFL.out.lt).cell 0
        have y1 : ∀ x : WIn (fun w' => Below WA.heap.size WA w'), x.w.cell? ⟨wr.heap.size, 1, none⟩ = some (.string ⟨f2.toArray⟩) := fun x => (HFL.out.below x.h HFL.out.lt).cell 1
        repeat (first | go_big_quiet_skip | (go_big_quiet_want; go_big_quiet_op; go_big_quiet_on))
        go_big_quiet_want
        go_big_quiet_op
        refine ⟨_, fun x => quiet_call (HBT.out _) (fun e w9 h9 => ⟨h9.1, h9.2 ▸ x.h⟩), ?_⟩
        go_big_quiet_on
        repeat (first | go_big_quiet_skip | (go_big_quiet_want; go_big_quiet_op; go_big_quiet_on))
        refine wpQuiet_nil ?_
        intro w9 hw9
        obtain ⟨x, rfl⟩ := hw9
        obtain ⟨w4, hb4⟩ := x
        simp only
        clear y0 y1 hne
        have hb4' : Below wr.heap.size wr w4 := HBA.out.trans (hb4.mono HBA.out.size)
        have hR4 : Blk w4 w.heap.size 25 zReq := HRk.out.below hb4' (Blk.lt HRk.out)
        have r0 := hR4.cell 0
        have r1 := hR4.cell 1
        have r2 := hR4.cell 2
        have r3 := hR4.cell 3
        have r4 := hR4.cell 4
        have k0 := hR4.frozen 0
        have k1 := hR4.frozen 1
        have k2 := hR4.frozen 2
        have k3 := hR4.frozen 3
        have k4 := hR4.frozen 4
        have rl := hR4.lt
        have HEND := Lib.hid (set5z hR4 (HBk.out.trans (hb4'.mono HBk.out.size)) (Nat.le_refl _))
        clear hR4 hb4 hb4'
        go_wp2
        refine bodyPost_ret (results_cell_tmp1 rfl _ _ w.heap.size _ _ _ rfl HEND.out.1 Tryz.underlying25 rfl req_size) rfl ?_
        refine ⟨HEND.out.2, ?_⟩
        rw [if_pos (.inl (List.any_eq_true.2 ⟨_, HMEM.out, HX.out⟩))]
        exact ⟨_, _, rfl⟩
      | false =>
        rw [hbt] at HBT
        have HX := Lib.hid hbt
        clear hbt
        go_wp2_with fail
        refine quiet_in (fun w' => Below WA.heap.size WA w') (by kernel_rfl) (by kernel_rfl) ?_ fun hne => ?_
        · exact (Below.refl _ _).drew
        have y0 : ∀ x : WIn (fun w' => Below WA.heap.size WA w'), x.w.cell? ⟨wr.heap.size, 0, none⟩ = some (.string ⟨f1.toArray⟩) := fun x => (HFL.out.below x.h HFL.out.lt).cell 0
        have y1 : ∀ x : WIn (fun w' => Below WA.heap.size WA w'), x.w.cell? ⟨wr.heap.size, 1, none⟩ = some (.string ⟨f2.toArray⟩) := fun x => (HFL.out.below x.h HFL.out.lt).cell 1
        repeat (first | go_big_quiet_skip | (go_big_quiet_want; go_big_quiet_op; go_big_quiet_on))
        go_big_quiet_want
        go_big_quiet_op
        refine ⟨_, fun x => quiet_call (HBT.out _) (fun e w9 h9 => ⟨h9.1, h9.2 ▸ x.h⟩), ?_⟩
        go_big_quiet_on
        repeat (first | go_big_quiet_skip | (go_big_quiet_want; go_big_quiet_op; go_big_quiet_on))
        refine wpQuiet_nil ?_
        intro w9 hw9
        obtain ⟨x, rfl⟩ := hw9
        obtain ⟨w4, hb4⟩ := x
        simp only
        clear y0 y1 hne
        have hb4' : Below wr.heap.size wr w4 := HBA.out.trans (hb4.mono HBA.out.size)
        have hfl4 := HFL.out.below hb4 HFL.out.lt
        have d0 := hfl4.cell 0
        have d1 := hfl4.cell 1
        have dl := hfl4.lt
        have HS4 := Lib.hid (HS.out.kept hb4')
        have HNB2 := Lib.hid (show ∀ f ∈ rest.take (k + 1), isBetween f.1 = false from fun f hf => by
          rw [HTK.out] at hf
          rcases List.mem_append.1 hf with h9 | h9
          · exact HNB.out f h9
          · rw [List.mem_singleton.1 h9]; exact HX.out)
        have hwz4 := HS4.out.bw.size
        clear hb4 hb4' hfl4
        obtain ⟨a, ha⟩ : ∃ a, acK rest k = a := ⟨_, rfl⟩
        rw [ha] at hko hkt hkn HS4 HSUC ⊢
        have hfn : ((a.l ++ [(f1, f2)]).length) = a.l.length + 1 := by simp
        by_cases hck : f1 = cookieL
        · subst hck
          have e3 : (([99, 111, 111, 107, 105, 101] : List UInt8) == [99, 111, 111, 107, 105, 101]) = true := rfl
          cases hc : a.ck with
          | some j =>
            have hj := hko j hc
            have hacc : accF a (cookieL, f2) = ⟨addTo a.l j f2, some j⟩ := by simp [accF, hc]
            rw [hacc] at HSUC
            have e9 : ckV (some j) = .int .i64 ((j : Nat) : Int) := rfl
            rw [e9]
            obtain ⟨g, cap, hv3, hBg, hgl4⟩ := HS4.out.own.form (by omega)
            subst hv3
            have g3 := HS4.out.g.cell 3
            have gcl := HS4.out.g.lt
            have hca := HS4.out.own.cells (g := g) rfl
            obtain ⟨x1, x2⟩ := fvs_at a.l hj
            have y2 := hca _ _ x2
            rw [Addr.add_lit, Nat.zero_add] at y2
            have yf := (own_frozen HS4.out.own (j * 2 + 1)).1
            have hvl := tot_mem a.l a.l[j] (List.getElem_mem hj)
            obtain ⟨xv, hxv⟩ : ∃ xv, a.l[j].2 = xv := ⟨_, rfl⟩
            have HAT := Lib.hid (HS4.out.at_ j hj f2)
            rw [hxv] at y2 hvl HAT
            obtain ⟨t1, E1, n1, X1e⟩ := cat_name [59, 32] f2
            obtain ⟨t2, E2, n2, X2e⟩ := cat_name xv t1
            have E1' : ByteArray.mk #[59, 32] ++ ByteArray.mk f2.toArray = ⟨t1.toArray⟩ := E1
            rw [show xv ++ (sepC ++ f2) = t2 by rw [← X2e, ← X1e]; rfl] at HAT
            simp only [List.length_cons, List.length_nil] at n1
            have b1 : f2.length ≤ 1000000 := by omega
            have b2 : t1.length ≤ 2000000 := by omega
            have b3 : xv.length ≤ 1000000 := by omega
            have hji : ((j : Nat) : Int) < ((a.l.length : Nat) : Int) := by omega
            have hj0 : (0 : Int) ≤ ((j : Nat) : Int) := by omega
            have hj1 := decide_eq_true hj0
            clear hca x1 x2 hxv E1 n1 n2 X1e X2e hc hacc
            go_wp2_with fail
            go_region
            go_wp2_with fail
            go_roundg (gk - 1)
            case measure => have := HK.out; omega
            case rel =>
              refine ⟨k + 1, .slice (some ⟨g, 0, none⟩) (addTo a.l j f2).length cap, by have := HK.out; omega, ?_, by go_num, ?_, HNB2.out⟩
              · rw [HSUC.out]; rfl
              · show AkSt _ _ _ _ _ _ _ _ _ _ _
                rw [HSUC.out]
                have h9 := HAT.out.kept ((Below.refl _ _).drew)
                exact h9
          | none =>
            have hacc : accF a (cookieL, f2) = ⟨a.l ++ [(cookieL, f2)], some a.l.length⟩ := by simp [accF, hc]
            rw [hacc] at HSUC
            have e9 : ckV none = .int .i64 (-1) := rfl
            rw [e9]
            have g3 := HS4.out.g.cell 3
            have gcl := HS4.out.g.lt
            obtain ⟨A3, c3, hv3⟩ := own_slice HS4.out.own
            subst hv3
            have HO4 := Lib.hid HS4.out.own
            clear hc hacc
            go_wp2_with (at_builtin; refine wpList_pushF2 rfl _ _ rfl w2.heap.size _ _ a.l rfl HO4.out (cookieL, f2) _ rfl rfl (by omega) hwz4 ?_; intro A5 c5 w5 hown5 hg5 hv5 hb5; have hput := (HS4.out.kept ((Below.refl _ _).alloc (Nat.le_refl _) (.cells #[.string ⟨cookieL.toArray⟩, .string ⟨f2.toArray⟩] 41))).put (v4 := .slice A5 (a.l.length + 1) c5) (ys := a.l ++ [(cookieL, f2)]) hg5 (by rw [hfn]; exact hown5); obtain ⟨hp1, p3, pf, pl⟩ := hput; have HP1 := Lib.hid hp1; clear hown5 hg5 hv5 hb5 hp1)
            go_roundg (gk - 1)
            case measure => have := HK.out; omega
            case rel =>
              refine ⟨k + 1, .slice A5 (a.l.length + 1) c5, by have := HK.out; omega, ?_, by go_num, ?_, HNB2.out⟩
              · rw [HSUC.out]; rfl
              · show AkSt _ _ _ _ _ _ _ _ _ _ _
                rw [HSUC.out]
                exact HP1.out
        · have e3 : (f1 == [99, 111, 111, 107, 105, 101]) = false := beq_eq_false_iff_ne.2 hck
          have hacc : accF a (f1, f2) = ⟨a.l ++ [(f1, f2)], a.ck⟩ := by unfold accF; rw [if_neg hck]
          rw [hacc] at HSUC
          have g3 := HS4.out.g.cell 3
          have gcl := HS4.out.g.lt
          obtain ⟨A3, c3, hv3⟩ := own_slice HS4.out.own
          subst hv3
          have HO4 := Lib.hid HS4.out.own
          obtain ⟨vc, hvc⟩ : ∃ vc, ckV a.ck = vc := ⟨_, rfl⟩
          rw [hvc]
          have HVC := Lib.hid hvc
          clear hck hacc hvc
          go_wp2_with (at_builtin; refine wpList_pushF2 rfl _ _ rfl w2.heap.size _ _ a.l rfl HO4.out (f1, f2) _ rfl rfl (by omega) hwz4 ?_; intro A5 c5 w5 hown5 hg5 hv5 hb5; have hput := (HS4.out.kept ((Below.refl _ _).alloc (Nat.le_refl _) (.cells #[.string ⟨f1.toArray⟩, .string ⟨f2.toArray⟩] 41))).put (v4 := .slice A5 (a.l.length + 1) c5) (ys := a.l ++ [(f1, f2)]) hg5 (by rw [hfn]; exact hown5); obtain ⟨hp1, p3, pf, pl⟩ := hput; have HP1 := Lib.hid hp1; clear hown5 hg5 hv5 hb5 hp1)
          go_roundg (gk - 1)
          case measure => have := HK.out; omega
          case rel =>
            refine ⟨k + 1, .slice A5 (a.l.length + 1) c5, by have := HK.out; omega, ?_, by go_num, ?_, HNB2.out⟩
            · rw [HSUC.out]; exact HVC.out.symm
            · show AkSt _ _ _ _ _ _ _ _ _ _ _
              rw [HSUC.out]
              exact HP1.out
    · have hk2 : k = rest.length := by omega
      subst hk2
      have hki : ¬ ((rest.length : Nat) : Int) < ((rest.length : Nat) : Int) := by omega
      have hall := acK_all rest
      have hany : rest.any (fun f => isBetween f.1) = false := by
        rw [List.any_eq_false]
        intro f hf
        have := HNB.out f (by rw [List.take_length]; exact hf)
        simp [this]
      have hnm := accL_names (fun x => x.length ≤ 1000000) rest ⟨[], none⟩ (fun f hf => by cases hf) (fun f hf => (HRO.out f hf).2.2.2)
      rw [hall] at hkt hkn HS
      obtain ⟨a, ha⟩ : ∃ a, accL ⟨[], none⟩ rest = a := ⟨_, rfl⟩
      have HA := Lib.hid ha
      rw [ha] at hkt hkn HS hnm
      have hlong : longOk a.l := fun f hf => ⟨by have := hnm f hf; omega, by have := tot_mem a.l f hf; omega⟩
      obtain ⟨A3, c3, hv3⟩ := own_slice HS.out.own
      subst hv3
      have g0 := HS.out.g.cell 0
      have g1 := HS.out.g.cell 1
      have g2 := HS.out.g.cell 2
      have g3 := HS.out.g.cell 3
      have g4 := HS.out.g.cell 4
      have gcl := HS.out.g.lt
      have HC := Lib.hid (checkAsk_any m p h a.l (by omega) (by omega) (by omega) hlong (by omega) A3 a.l.length c3 rfl A1 b.length c1 wr (Reads.of_own HS.out.own))
      have HANY := Lib.hid hany
      obtain ⟨vc, hvc⟩ : ∃ vc, ckV (acK rest rest.length).ck = vc := ⟨_, rfl⟩
      rw [hvc]
      clear hall hany hnm ha hlong hvc hko
      go_wp2_with fail
      refine HC.out.mono ?_
      rintro e w4 ⟨rfl, hb4⟩
      have hR4 : Blk w4 w.heap.size 25 zReq := HRk.out.below hb4 (Blk.lt HRk.out)
      have hS4 := HS.out.kept hb4
      have r0 := hR4.cell 0
      have r1 := hR4.cell 1
      have r2 := hR4.cell 2
      have r3 := hR4.cell 3
      have r4 := hR4.cell 4
      have k0 := hR4.frozen 0
      have k1 := hR4.frozen 1
      have k2 := hR4.frozen 2
      have k3 := hR4.frozen 3
      have k4 := hR4.frozen 4
      have rl := hR4.lt
      have hBk4 := HBk.out.trans (hb4.mono HBk.out.size)
      by_cases hE : askE m p h a.l b.length = 0
      · rw [hE, errV_zero]
        have g0 := hS4.g.cell 0
        have g1 := hS4.g.cell 1
        have g2 := hS4.g.cell 2
        have g3 := hS4.g.cell 3
        have g4 := hS4.g.cell 4
        have gcl := hS4.g.lt
        have HS4 := Lib.hid hS4
        have HR4 := Lib.hid hR4
        have HB4 := Lib.hid hBk4
        have HE := Lib.hid hE
        clear hS4 hR4 hBk4 hb4 hE
        go_wp2
        have hend := blk_set5 HR4.out (.string ⟨m.toArray⟩) (.string ⟨p.toArray⟩) (.string ⟨h.toArray⟩) (.slice A3 a.l.length c3) (.slice A1 b.length c1) HB4.out (Nat.le_refl _)
        refine bodyPost_ret (results_cell_tmp1 rfl _ _ w.heap.size _ _ _ rfl hend.1 Tryz.underlying25 rfl req_size) rfl ?_
        refine ⟨hend.2, ?_⟩
        rw [if_neg (by rw [HANY.out, HA.out]; rintro (h9 | h9); · cases h9
                       · exact h9 HE.out), HA.out]
        have hn1 : (Value.slice A3 a.l.length c3).ownBlock ≠ some w.heap.size := own_blk_ne HS4.out.own HR4.out (by decide)
        have hn2 : (Value.slice A1 b.length c1).ownBlock ≠ some w.heap.size := own_blk_ne HS4.out.ob HR4.out (by decide)
        exact ⟨_, _, _, _, rfl, own_down (own_set5 HS4.out.own hn1 _ _ _ _ _) HBW2.out.size, own_set5 HS4.out.ob hn2 _ _ _ _ _⟩
      · rw [errV_pos hE]
        have HEND := Lib.hid (set5z hR4 hBk4 (Nat.le_refl _))
        have HE := Lib.hid hE
        clear hS4 hR4 hBk4 hb4 hE
        go_wp2
        refine bodyPost_ret (results_cell_tmp1 rfl _ _ w.heap.size _ _ _ rfl HEND.out.1 Tryz.underlying25 rfl req_size) rfl ?_
        refine ⟨HEND.out.2, ?_⟩
        rw [if_pos (.inr (by rw [HA.out]; exact HE.out))]
        exact ⟨_, _, rfl⟩
end Go.Proofs.YtbgnggkgmeagkaaGreatDoor
namespace Go.Proofs.YtbgnggkgmeagkaaGreatDoor
open Go.RowKit

theorem expF_mem {f g : Fld} (hg : g ∈ expF f) : g.1 = f.1 ∧ g.2.length ≤ f.2.length := by
  unfold expF at hg
  split at hg
  · rename_i h
    obtain ⟨x, hx, rfl⟩ := List.mem_map.1 hg
    exact ⟨h.symm, splitK_small sepC _ f.2 x hx⟩
  · rw [List.mem_singleton.1 hg]
    exact ⟨rfl, Nat.le_refl _⟩
theorem expL_mem {fs : List Fld} {g : Fld} (hg : g ∈ expL fs) : ∃ f ∈ fs, g.1 = f.1 ∧ g.2.length ≤ f.2.length := by
  obtain ⟨f, hf, h⟩ := List.mem_flatMap.1 hg
  exact ⟨f, hf, expF_mem h⟩
theorem expF_any (f : Fld) : (expF f).any (fun g => isBetween g.1) = isBetween f.1 := by
  unfold expF
  split
  · rename_i h
    obtain ⟨x, xs, hx⟩ : ∃ x xs, cutC f.2 = x :: xs := by
      cases hc : cutC f.2 with
      | nil => exact absurd hc (cut_ne _)
      | cons x xs => exact ⟨x, xs, rfl⟩
    have h0 : isBetween cookieL = false := by decide
    rw [h, h0, List.any_eq_false]
    intro g hg
    obtain ⟨y, _, rfl⟩ := List.mem_map.1 hg
    simp [h0]
  · simp
theorem expL_any (fs : List Fld) : (expL fs).any (fun g => isBetween g.1) = fs.any (fun g => isBetween g.1) := by
  induction fs with
  | nil => rfl
  | cons f fs ih =>
    show (expF f ++ expL fs).any _ = _
    rw [List.any_append, expF_any, ih, List.any_cons]
theorem tot_small : ∀ (l : List Fld) (B : Nat), (∀ f ∈ l, f.2.length ≤ B) → tot l ≤ l.length * (B + 2)
  | [], B, _ => by simp [tot]
  | f :: l, B, h => by
    have h1 := tot_small l B fun g hg => h g (List.mem_cons_of_mem _ hg)
    have h2 := h f (List.mem_cons_self ..)
    have e : tot (f :: l) = f.2.length + 2 + tot l := by simp [tot]
    rw [e, List.length_cons, Nat.add_mul]
    omega
theorem rest_ok {fs : List Fld} (h : ∀ f ∈ fs, goodF f) : restOk (expL fs) := by
  intro g hg
  obtain ⟨f, hf, e, _⟩ := expL_mem hg
  obtain ⟨g1, g2, g3⟩ := h f hf
  obtain ⟨n1, n2, n3⟩ := name_letters g1
  rw [e]
  refine ⟨?_, ?_, ?_, by omega⟩
  · intro y hy he
    exact (n3 y (List.mem_of_mem_head? hy)).2 he.symm
  · rintro h9
    rw [h9] at g3
    revert g3
    decide
  · rintro h9
    rw [h9] at g3
    revert g3
    decide
theorem list_fok {m p h : List UInt8} {fs : List Fld} (hm : m.length ≤ 400) (hp : p.length ≤ 400) (hh : h.length ≤ 400) (hf : ∀ f ∈ fs, goodF f) : ∀ f ∈ listL m p h fs, fOk f := by
  intro f hfm
  unfold listL at hfm
  simp only [List.mem_cons] at hfm
  rcases hfm with rfl | rfl | rfl | hfm
  · exact ⟨by show (7 : Nat) ≤ _; omega, by show m.length ≤ _; omega⟩
  · exact ⟨by show (5 : Nat) ≤ _; omega, by show p.length ≤ _; omega⟩
  · exact ⟨by show (5 : Nat) ≤ _; omega, by show h.length ≤ _; omega⟩
  · obtain ⟨g, hg, e1, e2⟩ := expL_mem hfm
    obtain ⟨g1, g2, g3⟩ := hf g hg
    have := (name_letters g1).2.1
    have := plain_len g2
    exact ⟨by rw [e1]; omega, by omega⟩
end Go.Proofs.YtbgnggkgmeagkaaGreatDoor
namespace Go.Proofs.YtbgnggkgmeagkaaGreatDoor
open Go.RowKit
/-- The table's entry for sixteen. -/
def DeB (w : World) : Prop := w.cell? ⟨7, 15, none⟩ = some (.int .u8 4)
theorem DeB.next {w w' : World} (h : DeB w) (hb : Below w.heap.size w w') : DeB w' := (hb.cell (World.block_lt_of_cell? w _ h)).trans h
set_option maxRecDepth 100000 in
set_option maxHeartbeats 4000000 in
theorem tz_16 (w : World) (h : DeB w) : Calls Tryz.prog 265 #[.int .u64 16] w fun e w' => e = .returned (.int .i64 4) ∧ w = w' := by
  unfold DeB at h
  have hl := World.block_lt_of_cell? w _ h
  have e1 : IntKind.u64.wrap (-16) = 18446744073709551600 := by decide
  have e2 : bits .and .u64 16 18446744073709551600 = 16 := by kernel_rfl
  have e3 : IntKind.u64.wrap 4573923408821661840 = 4573923408821661840 := by decide
  go_enter Tryz.func265, Tryz.ntmps265
  go_wp2
  go_ret
  exact ⟨rfl, rfl⟩
set_option maxRecDepth 100000 in
set_option maxHeartbeats 1000000 in
theorem pw2_16 (w : World) : Calls Tryz.prog 264 #[.int .i64 16] w fun e w' => e = .returned (.bool true) ∧ w = w' := by
  have e1 : bits .and .i64 16 15 = 0 := by kernel_rfl
  go_enter Tryz.func264, Tryz.ntmps264
  go_wp2
  go_ret
  exact ⟨rfl, rfl⟩
theorem zc_64 : Tryz.zeroCells344[64]? = some (.int .u8 0) := by kernel_rfl
set_option maxRecDepth 100000 in
set_option maxHeartbeats 4000000 in
theorem fmt_16 (w : World) (h : DeB w) : Calls Tryz.prog 200 #[.slice none 0 0, .int .u64 4, .int .i64 16, .bool false, .bool true] w fun e w' => ∃ A c, e = .returned (.tuple #[.slice A 1 c, .string ⟨#[]⟩]) ∧ w'.ownsRow w.heap.size 5 1 (.slice A 1 c) 1 (bs [52]) ∧ Below w.heap.size w w' := by
  obtain ⟨i0, hi0, hz0, hz1, hz2⟩ := info_parts u8_info
  have HD := Lib.hid h
  clear h
  go_enter Tryz.func200, Tryz.ntmps200
  go_wp2_with fail
  have hb := (Below.refl w.heap.size w).alloc (Nat.le_refl _) (.cells Tryz.zeroCells344 344)
  have hB := Blk.new w 344 Tryz.zeroCells344
  obtain ⟨w1, hw1⟩ : ∃ w1, w.alloc (.cells Tryz.zeroCells344 344) = w1 := ⟨_, rfl⟩
  rw [hw1] at hb hB ⊢
  have HB := Lib.hid hb
  have HK := Lib.hid hB
  have c64 : w1.cell? ⟨w.heap.size, 64, none⟩ = some (.int .u8 0) := (hB.cell 64).trans zc_64
  have f64 := hB.frozen 64
  have l64 := hB.lt
  have HT := Lib.hid (tz_16 w1 (HD.out.next hb))
  clear hw1 hb hB HD
  refine (pw2_16 w1).mono ?_
  rintro e w' ⟨rfl, rfl⟩
  go_wp2_with fail
  refine HT.out.mono ?_
  rintro e w' ⟨rfl, rfl⟩
  go_wp2
  refine wp_loop_rounds 1 ?_
  rw [rounds_succ]
  have e5 : (ByteArray.mk #[48, 49, 50, 51, 52, 53, 54, 55, 56, 57, 97, 98, 99, 100, 101, 102, 103, 104, 105, 106, 107, 108, 109, 110, 111, 112, 113, 114, 115, 116, 117, 118, 119, 120, 121, 122])[4]'(by decide) = 52 := by rfl
  go_upto_region 29 with fail
  obtain ⟨w2, hw2⟩ : ∃ w2, w1.setCell ⟨w.heap.size, 64, none⟩ (.int .u8 52) = w2 := ⟨_, rfl⟩
  rw [hw2]
  have hB2 := HK.out.set_ 64 (.int .u8 52)
  have hb2 := HB.out.setCell (p := ⟨w.heap.size, 64, none⟩) (Nat.le_refl _) (.int .u8 52)
  rw [hw2] at hB2 hb2
  have hc64 : w2.cell? ⟨w.heap.size, 64, none⟩ = some (.int .u8 52) := (hB2.cell 64).trans (by kernel_rfl)
  have HR : Reads w2 w2.heap.size 1 (some ⟨w.heap.size, 64, none⟩) 1 (bs [52]) := ⟨rfl, fun _ => ⟨_, rfl, hB2.lt, fun j u hj => by
    match j, hj with
    | 0, hj =>
      cases hj
      rw [Addr.add_lit, Nat.add_zero]
      exact hc64
    | j + 1, hj => simp [bs] at hj⟩⟩
  have HR2 := Lib.hid HR
  have HB2 := Lib.hid hb2
  clear hc64 hw2 hB2 hb2 HR c64 f64 l64 e5 HT HK HB
  go_wp2_with (at_builtin; refine wpList_append_any _ rfl _ _ 23 rfl w.heap.size 5 i0 (.int .u8 0) 1 1 Tryz.underlying23 hi0 hz0 hz1 hz2 rfl (by decide) _ 0 [] rfl (World.ownsRow_nil _ _ _ _) _ (some ⟨w.heap.size, 64, none⟩) 1 1 (bs [52]) rfl HR2.out (bs_ones _) (by simp only [maxLen]; omega) (by omega) HB2.out.size ?_; intro v' w' hown' hg _)
  go_ret2
  obtain ⟨A', c', rfl⟩ := own_slice hown'
  exact ⟨A', c', rfl, hown', HB2.out.grown hg HB2.out.size (fun k e => by cases e)⟩
set_option maxRecDepth 100000 in
set_option maxHeartbeats 4000000 in
theorem app_16 (w : World) (h : DeB w) : Calls Tryz.prog 172 #[.slice none 0 0, .int .i64 4, .int .i64 16] w fun e w' => ∃ A c, e = .returned (.slice A 1 c) ∧ w'.ownsRow w.heap.size 5 1 (.slice A 1 c) 1 (bs [52]) ∧ Below w.heap.size w w' := by
  have HF := Lib.hid (fmt_16 w h)
  clear h
  have HU : Hid (Calls Tryz.prog 298 #[.slice none 0 0, .int .u64 4, .int .i64 16] w fun e w' => ∃ A c, e = .returned (.slice A 1 c) ∧ w'.ownsRow w.heap.size 5 1 (.slice A 1 c) 1 (bs [52]) ∧ Below w.heap.size w w') := by
    go_enter Tryz.func298, Tryz.ntmps298
    go_wp2_with fail
    refine HF.out.mono ?_
    rintro e w' ⟨A, c, rfl, h1, h2⟩
    have H1 := Lib.hid h1
    have H2 := Lib.hid h2
    clear h1 h2 HF
    go_wp2
    go_ret
    exact ⟨A, c, rfl, H1.out, H2.out⟩
  have HI : Hid (Calls Tryz.prog 249 #[.slice none 0 0, .int .i64 4, .int .i64 16] w fun e w' => ∃ A c, e = .returned (.slice A 1 c) ∧ w'.ownsRow w.heap.size 5 1 (.slice A 1 c) 1 (bs [52]) ∧ Below w.heap.size w w') := by
    go_enter Tryz.func249, Tryz.ntmps249
    go_wp2_with fail
    refine HU.out.mono ?_
    rintro e w' ⟨A, c, rfl, h1, h2⟩
    have H1 := Lib.hid h1
    have H2 := Lib.hid h2
    clear h1 h2 HF HU
    go_wp2
    go_ret
    exact ⟨A, c, rfl, H1.out, H2.out⟩
  go_enter Tryz.func172, Tryz.ntmps172
  go_wp2_with fail
  refine HI.out.mono ?_
  rintro e w' ⟨A, c, rfl, h1, h2⟩
  have H1 := Lib.hid h1
  have H2 := Lib.hid h2
  clear h1 h2 HF HU HI
  go_wp2
  go_ret
  exact ⟨A, c, rfl, H1.out, H2.out⟩
end Go.Proofs.YtbgnggkgmeagkaaGreatDoor
