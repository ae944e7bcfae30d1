/-
  A coder that hears: where its loop stands. No condition.
-/
import Derived.Test.YtkbbkamnmdeagaaLit
namespace Go.Proofs.Ytkbbkamnmdeagaa
open Go.RowKit

/-- Between two pieces: the reader, the coder, the list so far. -/
structure DAt (w wr : World) (C h : Nat) (A A' : Option Addr) (c' R B : Nat) (b : List UInt8) (ys : List Fld) (my most : Nat) (v : Value) (acc : List Fld) : Prop where
  rd : Rd wr R B b
  ci : CIn wr C h A' c' ys my most false
  fr : ∀ k, iOwn C h A' k → iOwn C h A k ∨ w.heap.size ≤ k
  nR : ¬ iOwn C h A' R
  nv : ∀ k, v.ownBlock = some k → ¬ iOwn C h A' k
  row : wr.ownsRow w.heap.size 40 2 v acc.length (fvs acc)
  kp : Keep (iOwn C h A) w wr
  rb : w.heap.size ≤ R
  bw : B < w.heap.size
  bl : ¬ iOwn C h A' B
/-- The same, with a field's block beside. -/
structure DFt (w wr : World) (C h : Nat) (A A' : Option Addr) (c' R B : Nat) (b : List UInt8) (ys : List Fld) (my most : Nat) (v : Value) (acc : List Fld) (F : Nat) (x y : Value) : Prop where
  d : DAt w wr C h A A' c' R B b ys my most v acc
  fl : Blk wr F 40 #[x, y]
  vF : v.ownBlock ≠ some F
  aF : ¬ iOwn C h A' F
  fw : w.heap.size ≤ F
section
variable {w wr w1 : World} {C h R B my most c' F : Nat} {A A' : Option Addr} {b b' : List UInt8} {ys acc : List Fld} {v x y : Value}
theorem DAt.rlt (d : DAt w wr C h A A' c' R B b ys my most v acc) : R < wr.heap.size := by
  obtain ⟨a, c, h1, _⟩ := d.rd
  exact h1.lt
theorem DAt.vR (d : DAt w wr C h A A' c' R B b ys my most v acc) : v.ownBlock ≠ some R := by
  obtain ⟨a, c, h1, _⟩ := d.rd
  exact own_blk_ne d.row h1 (by decide)
theorem DAt.bR (d : DAt w wr C h A A' c' R B b ys my most v acc) : R ≠ B := by
  have h1 := d.bw
  have h2 := d.rb
  omega
/-- What stays: nothing of the reader's, the coder's, the list's own is touched. -/
theorem DAt.move {S : Nat → Prop} (d : DAt w wr C h A A' c' R B b ys my most v acc) (hk : Keep S wr w1) (h1 : ¬ S R) (h2 : ∀ k, iOwn C h A' k → ¬ S k) (h3 : ∀ k, v.ownBlock = some k → ¬ S k) (h5 : ∀ k, S k → w.heap.size ≤ k) : DAt w w1 C h A A' c' R B b ys my most v acc :=
  ⟨d.rd.keep hk (fun hs => by have := h5 B hs; have := d.bw; omega) h1, d.ci.keep hk h2, d.fr, d.nR, d.nv, ownRow_keep d.row hk h3, d.kp.trans hk fun i hi => .inr (h5 i hi), d.rb, d.bw, d.bl⟩
theorem DAt.next (d : DAt w wr C h A A' c' R B b ys my most v acc) (hb : Below wr.heap.size wr w1) : DAt w w1 C h A A' c' R B b ys my most v acc :=
  d.move (S := fun _ => False) (Keep.of_below hb) (fun h => h) (fun _ _ h => h) (fun _ _ h => h) fun _ h => h.elim
theorem DAt.read (d : DAt w wr C h A A' c' R B b ys my most v acc) (hr : Rd w1 R B b') (hk : Keep (fun k => k = R) wr w1) : DAt w w1 C h A A' c' R B b' ys my most v acc :=
  ⟨hr, d.ci.keep hk fun k hk he => d.nR (he ▸ hk), d.fr, d.nR, d.nv, ownRow_keep d.row hk fun k hk he => d.vR (he ▸ hk), d.kp.trans hk fun i hi => .inr (by rw [hi]; exact d.rb), d.rb, d.bw, d.bl⟩
theorem DAt.noErr (d : DAt w wr C h A A' c' R B b ys my most v acc) : DAt w (wr.setCell ⟨R, 1, none⟩ .nilIface) C h A A' c' R B b ys my most v acc := by
  obtain ⟨h1, h2⟩ := rd_noErr d.rd d.bR
  exact d.read h1 h2
theorem DAt.fld (d : DAt w wr C h A A' c' R B b ys my most v acc) (x y : Value) : DFt w (wr.alloc (.cells #[x, y] 40)) C h A A' c' R B b ys my most v acc wr.heap.size x y := by
  refine ⟨d.next ((Below.refl _ _).alloc (Nat.le_refl _) _), Blk.new wr _ _, fun e => ?_, fun e => ?_, d.kp.size⟩
  · have := (d.row.lt _ e).2
    omega
  · have := d.ci.lt _ e
    omega
theorem DFt.fR (d : DFt w wr C h A A' c' R B b ys my most v acc F x y) : F ≠ R := by
  obtain ⟨a, c, h1, _⟩ := d.d.rd
  exact Blk.ne_ d.fl h1 (by decide)
theorem DFt.next (d : DFt w wr C h A A' c' R B b ys my most v acc F x y) (hb : Below wr.heap.size wr w1) : DFt w w1 C h A A' c' R B b ys my most v acc F x y :=
  ⟨d.d.next hb, d.fl.below hb d.fl.lt, d.vF, d.aF, d.fw⟩
theorem DFt.read (d : DFt w wr C h A A' c' R B b ys my most v acc F x y) (hr : Rd w1 R B b') (hk : Keep (fun k => k = R) wr w1) : DFt w w1 C h A A' c' R B b' ys my most v acc F x y :=
  ⟨d.d.read hr hk, d.fl.keep hk d.fR, d.vF, d.aF, d.fw⟩
theorem DFt.noErr (d : DFt w wr C h A A' c' R B b ys my most v acc F x y) : DFt w (wr.setCell ⟨R, 1, none⟩ .nilIface) C h A A' c' R B b ys my most v acc F x y :=
  ⟨d.d.noErr, d.fl.keep ((Keep.refl (fun k => k = R) wr).setCell (p := ⟨R, 1, none⟩) (.inl rfl) _) d.fR, d.vF, d.aF, d.fw⟩
theorem DFt.put (d : DFt w wr C h A A' c' R B b ys my most v acc F x y) (x' y' : Value) : DFt w ((wr.setCell ⟨F, 0, none⟩ x').setCell ⟨F, 1, none⟩ y') C h A A' c' R B b ys my most v acc F x' y' := by
  have hk : Keep (fun k => k = F) wr ((wr.setCell ⟨F, 0, none⟩ x').setCell ⟨F, 1, none⟩ y') := ((Keep.refl (fun k => k = F) wr).setCell (p := ⟨F, 0, none⟩) (.inl rfl) _).setCell (p := ⟨F, 1, none⟩) (.inl rfl) _
  refine ⟨d.d.move hk (fun e => d.fR e.symm) (fun k hk he => d.aF (he ▸ hk)) (fun k hk he => d.vF (he ▸ hk)) (fun k he => ?_), ?_, d.vF, d.aF, d.fw⟩
  · rw [he]
    exact d.fw
  · have := (d.fl.set_ 0 x').set_ 1 y'
    simpa using this
theorem DFt.add (d : DFt w wr C h A A' c' R B b ys my most v acc F x y) (f : Fld) (ha : Added wr w1 h A' my ys f) : ∃ A2 c2, DFt w w1 C h A A2 c2 R B b (tAdd my ys f) my most v acc F x y := by
  obtain ⟨A2, c2, h1, h2, h3⟩ := ha
  obtain ⟨rd, ci, fr, nR, nv, row, kp, rb, bw, bl⟩ := d.d
  have hRl := d.d.rlt
  obtain ⟨⟨g, Sv, hb⟩, ht⟩ := ci
  have hCt : ¬ tOwn h A' C := by
    rintro (rfl | ⟨a, ha, he⟩)
    · exact Blk.ne_ hb ht.blk (by decide) rfl
    · have := own_blk_ne ht.own hb (by decide)
      rw [ha] at this
      exact this (by simp [Value.ownBlock, he])
  have hn : ∀ k, k < wr.heap.size → ¬ iOwn C h A' k → ¬ iOwn C h A2 k := by
    rintro k hk hn (rfl | ho)
    · exact hn (.inl rfl)
    · rcases h3 k ho with h4 | h4
      · exact hn (.inr h4)
      · omega
  refine ⟨A2, c2, ⟨rd.keep h2 (fun e => bl (.inr e)) (fun e => nR (.inr e)), ⟨⟨g, Sv, hb.keep h2 hCt⟩, h1⟩, ?_, hn R hRl nR, fun k hk => hn k (row.lt k hk).2 (nv k hk), ownRow_keep row h2 fun k hk ho => nv k hk (.inr ho), kp.trans h2 fun i hi => fr i (.inr hi), rb, bw, hn B (by have := kp.size; omega) bl⟩,
    d.fl.keep h2 (fun e => d.aF (.inr e)), d.vF, hn F d.fl.lt d.aF, d.fw⟩
  rintro k (rfl | ho)
  · exact fr k (.inl rfl)
  · rcases h3 k ho with h4 | h4
    · exact fr k (.inr h4)
    · exact .inr (Nat.le_trans kp.size h4)
/-- Behind sizes. -/
theorem DAt.size (d : DAt w wr C h A A' c' R B b ys my most v acc) {p : Nat} {zs : List Fld} (h1 : Tab w1 h A' c' zs p) (h2 : Keep (tOwn h A') wr w1) : DAt w w1 C h A A' c' R B b zs p most v acc := by
  obtain ⟨rd, ci, fr, nR, nv, row, kp, rb, bw, bl⟩ := d
  obtain ⟨⟨g, Sv, hb⟩, ht⟩ := ci
  have hCt : ¬ tOwn h A' C := by
    rintro (rfl | ⟨a, ha, he⟩)
    · exact Blk.ne_ hb ht.blk (by decide) rfl
    · have := own_blk_ne ht.own hb (by decide)
      rw [ha] at this
      exact this (by simp [Value.ownBlock, he])
  exact ⟨rd.keep h2 (fun e => bl (.inr e)) (fun e => nR (.inr e)), ⟨⟨g, Sv, hb.keep h2 hCt⟩, h1⟩, fr, nR, nv, ownRow_keep row h2 fun k hk ho => nv k hk (.inr ho), kp.trans h2 fun i hi => fr i (.inr hi), rb, bw, bl⟩
/-- Behind an append. -/
theorem DAt.push (d : DAt w wr C h A A' c' R B b ys my most v acc) (f : Fld) {v2 : Value} {w2 : World} (hown : w2.ownsRow w.heap.size 40 2 v2 (acc.length + 1) (fvs acc ++ fv f)) (hg : wr.grownBy w2 v.ownBlock) (hv : v2.ownBlock = v.ownBlock ∨ v2.ownBlock = some wr.heap.size) : DAt w w2 C h A A' c' R B b ys my most v2 (acc ++ [f]) := by
  have hk : Keep (fun k => v.ownBlock = some k) wr w2 := (Keep.refl (fun k => v.ownBlock = some k) wr).grown hg fun k hk => .inl hk
  have hvw : ∀ k, v.ownBlock = some k → w.heap.size ≤ k := fun k hk => (d.row.lt k hk).1
  refine ⟨d.rd.keep hk (fun e => by have := hvw B e; have := d.bw; omega) d.vR, d.ci.keep hk fun k hk he => d.nv k he hk, d.fr, d.nR, fun k hk hi => ?_, ?_, d.kp.trans hk fun i hi => .inr (hvw i hi), d.rb, d.bw, d.bl⟩
  · rcases hv with e | e
    · exact d.nv k (by rw [← e]; exact hk) hi
    · rw [e] at hk
      cases hk
      have := d.ci.lt _ hi
      omega
  · rw [List.length_append, fvs_append]
    simpa [fvs] using hown
theorem DAt.cells (d : DAt w wr C h A A' c' R B b ys my most v acc) : (∃ a c, wr.cell? ⟨R, 0, none⟩ = some (.slice a b.length c) ∧ (0 < b.length → ∃ bb off, a = some ⟨bb, off, none⟩ ∧ wr.cell? ⟨bb, off, none⟩ = some (.int .u8 (((b.headD 0).toNat : Nat) : Int)))) ∧ wr.cell? ⟨R, 1, none⟩ = some .nilIface ∧ wr.frozen? ⟨R, 1, none⟩ = false ∧ R < wr.heap.size ∧
    wr.cell? ⟨C, 1, none⟩ = some (.pointer (some ⟨h, 0, none⟩)) ∧ wr.cell? ⟨C, 2, none⟩ = some (.int .i64 ((most : Nat) : Int)) ∧ C < wr.heap.size := by
  obtain ⟨a, c, h1, h2, h3, -⟩ := d.rd
  obtain ⟨⟨g, Sv, hb⟩, ht⟩ := d.ci
  refine ⟨⟨a, c, h1.cell 0, fun h0 => ?_⟩, h1.cell 1, h1.frozen 1, h1.lt, hb.cell 1, hb.cell 2, hb.lt⟩
  obtain ⟨bb, off, y0, rfl, _, hc, hh, _⟩ := reads_head h3 h0
  exact ⟨bb, off, rfl, by rw [hh]; exact hc⟩
theorem DFt.cells (d : DFt w wr C h A A' c' R B b ys my most v acc F x y) : wr.cell? ⟨F, 0, none⟩ = some x ∧ wr.cell? ⟨F, 1, none⟩ = some y ∧ wr.frozen? ⟨F, 0, none⟩ = false ∧ wr.frozen? ⟨F, 1, none⟩ = false ∧ F < wr.heap.size :=
  ⟨d.fl.cell 0, d.fl.cell 1, d.fl.frozen 0, d.fl.frozen 1, d.fl.lt⟩
end
end Go.Proofs.Ytkbbkamnmdeagaa
