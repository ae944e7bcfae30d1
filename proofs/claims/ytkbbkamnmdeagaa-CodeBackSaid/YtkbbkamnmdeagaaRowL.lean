/-
  The row of bits: strings.IndexByte at the frequent bytes, (*row).put, (*row).get. Conditions: the bounds that each names.
-/
import Derived.Test.YtkbbkamnmdeagaaCodeDec
import Derived.Test.YtkbbkamnmdeagaaBytesL
import Derived.Test.YtkbbkamnmdeagaaBitFacts
import Derived.RegionTactic
import Derived.BigRegion
import Derived.ChangeAlike
import Derived.Deep.QuietTactic
import Derived.BigQuiet
import Derived.Lib.Bytealg
import Derived.Laws.StandIn
namespace Go.Proofs.Ytkbbkamnmdeagaa
open Go.RowKit

/-- Below block number B nothing but block g has turned. -/
structure BelowBut (B g : Nat) (w w' : World) : Prop where
  os : w'.os = w.os
  tape : w'.tape = w.tape
  output : w'.output = w.output
  size : w.heap.size ≤ w'.heap.size
  block : ∀ k, k < B → k ≠ g → w'.heap[k]? = w.heap[k]?
theorem BelowBut.refl (B g : Nat) (w : World) : BelowBut B g w w := ⟨rfl, rfl, rfl, Nat.le_refl _, fun _ _ _ => rfl⟩
theorem BelowBut.trans {B g : Nat} {a b c : World} (h : BelowBut B g a b) (k : BelowBut B g b c) : BelowBut B g a c :=
  ⟨k.os.trans h.os, k.tape.trans h.tape, k.output.trans h.output, Nat.le_trans h.size k.size, fun i hi hg => (k.block i hi hg).trans (h.block i hi hg)⟩
theorem BelowBut.of {B g : Nat} {a b : World} (h : Below B a b) : BelowBut B g a b := ⟨h.os, h.tape, h.output, h.size, fun k hk _ => h.block k hk⟩
theorem BelowBut.drew {B g : Nat} {a b : World} (h : BelowBut B g a b) : BelowBut B g a b.drew := ⟨h.os, h.tape, h.output, h.size, h.block⟩
theorem BelowBut.drewN {B g : Nat} {a b : World} (h : BelowBut B g a b) (n : Nat) : BelowBut B g a (b.drewN n) := ⟨h.os, h.tape, h.output, h.size, h.block⟩
theorem BelowBut.setCell {B g : Nat} {a b : World} (h : BelowBut B g a b) {p : Addr} (hp : p.block = g ∨ B ≤ p.block) (u : Value) : BelowBut B g a (b.setCell p u) :=
  h.trans ⟨rfl, rfl, rfl, by simp [World.setCell], fun k hk hg => Below.heap_setCell _ _ _ _ (by rcases hp with hp | hp <;> omega)⟩
theorem BelowBut.below {B B' g : Nat} {a b : World} (h : BelowBut B g a b) (hB : B' ≤ B) (hg : B' ≤ g) : Below B' a b := ⟨h.os, h.tape, h.output, h.size, fun k hk => h.block k (by omega) (by omega)⟩
theorem BelowBut.cell {B g : Nat} {a b : World} (h : BelowBut B g a b) {p : Addr} (hp : p.block < B) (hg : p.block ≠ g) : b.cell? p = a.cell? p := World.cell?_of_block (w := a) (h.block p.block hp hg)

theorem idx_any (c : UInt8) (w : World) :
    Calls Try.prog 23 #[.string ⟨often.toArray⟩, .int .u8 (c.toNat : Int)] w fun e w' => e = .returned (.int .i64 (oidx c)) ∧ w = w' := by
  have hx := @run_callFunc_indexByte Try.prog 46 _ Try.func46 (by kernel_rfl) (by kernel_rfl) (by kernel_rfl) (by kernel_rfl)
  have hr := fun W => Lib.run_indexByteString (P := Try.prog) ⟨often.toArray⟩ (c.toNat : Int) W
  have ho : Lib.indexByte (ByteArray.mk often.toArray).data.toList ((c.toNat : Int)).toNat.toUInt8 = oidx c := by
    simp [oidx]
  rw [ho] at hr
  go_enter Try.func23, Try.ntmps23
  go_wp2
  go_ret
  exact ⟨rfl, rfl⟩

theorem own_set {w : World} {base : Nat} {e : TypeId} {q n c : Nat} {xs : List Value} (h : w.ownsRow base e 1 (.slice (some ⟨q, 0, none⟩) n c) n xs) (k : Nat) (hk : k < n) (u : Value) :
    (w.setCell ⟨q, k, none⟩ u).ownsRow base e 1 (.slice (some ⟨q, 0, none⟩) n c) n (xs.set k u) := by
  obtain ⟨h1, h2⟩ := h
  refine ⟨by simpa using h1, ?_⟩
  rcases h2 with ⟨h2, _⟩ | ⟨g, cap, cur, hv, hg, hh, hn, hm, hs, ht⟩
  · cases h2
  · injection hv with hv1 _ hv3
    injection hv1 with hv1
    injection hv1 with hv1
    subst hv1 hv3
    refine .inr ⟨q, c, cur.setIfInBounds k u, rfl, hg, Blk.set_ hh k u, hn, hm, by simpa using hs, ?_⟩
    rw [Array.toList_setIfInBounds, List.take_set, ht]
theorem own_cell {w : World} {base : Nat} {e : TypeId} {q n c : Nat} {xs : List Value} (h : w.ownsRow base e 1 (.slice (some ⟨q, 0, none⟩) n c) n xs) {k : Nat} {u : Value} (hk : xs[k]? = some u) :
    w.cell? ⟨q, k, none⟩ = some u ∧ w.frozen? ⟨q, k, none⟩ = false := by
  refine ⟨by simpa [Addr.add_lit] using h.cells (g := q) rfl k u hk, ?_⟩
  rcases h.2 with ⟨h2, _⟩ | ⟨g, cap, cur, hv, hg, hh, _⟩
  · cases h2
  · injection hv with hv1
    injection hv1 with hv1
    injection hv1 with hv1
    subst hv1
    exact Blk.frozen hh k
theorem own_far {w : World} {base : Nat} {e : TypeId} {size n : Nat} {v : Value} {xs : List Value} (h : w.ownsRow base e size v n xs) {p : Addr} (hp : p.block < base) (u : Value) : (w.setCell p u).ownsRow base e size v n xs :=
  ownsRow_setCell_below h hp u

/-- 'y | bit << (7 - r)' where y has nothing from there on. -/
theorem u8_or_bit (y r : Nat) (b : Bool) (hy : y < 256) (hr : r < 8) (h0 : y % 2 ^ (8 - r) = 0) : bits .or .u8 (y : Int) ((b.toNat : Int) * 2 ^ (7 - r) % 256) = ((y + b.toNat * 2 ^ (7 - r) : Nat) : Int) := by
  have hb : b.toNat ≤ 1 := by cases b <;> decide
  have hall : ∀ y : Fin 256, ∀ r : Fin 8, ∀ b : Fin 2, y.val % 2 ^ (8 - r.val) = 0 → (y.val ||| b.val * 2 ^ (7 - r.val)) = y.val + b.val * 2 ^ (7 - r.val) ∧ y.val + b.val * 2 ^ (7 - r.val) < 256 ∧ b.val * 2 ^ (7 - r.val) < 256 := by decide +kernel
  obtain ⟨h1, h2, h3⟩ := hall ⟨y, hy⟩ ⟨r, hr⟩ ⟨b.toNat, by omega⟩ h0
  simp only at h1 h2 h3
  have e : ((b.toNat : Int) * 2 ^ (7 - r) % 256) = ((b.toNat * 2 ^ (7 - r) : Nat) : Int) := by
    have : ((b.toNat : Int) * 2 ^ (7 - r)) = ((b.toNat * 2 ^ (7 - r) : Nat) : Int) := by simp
    rw [this]
    omega
  rw [e]
  show IntKind.u8.wrap ((BitVec.ofInt 8 (y : Int) ||| BitVec.ofInt 8 ((b.toNat * 2 ^ (7 - r) : Nat) : Int)).toNat : Int) = _
  rw [BitVec.toNat_or, ofInt8 y hy, ofInt8 _ h3, h1, IntKind.wrap_u8]
  omega
theorem i64_bit (x i : Nat) (hx : x < 512) : bits .and .i64 ((x : Int) / 2 ^ i) 1 = ((x.testBit i).toNat : Int) := by
  have e : (x : Int) / 2 ^ i = ((x / 2 ^ i : Nat) : Int) := by simp
  have h1 : x / 2 ^ i ≤ x := Nat.div_le_self ..
  have := i64_mask (x / 2 ^ i) 1 (by omega) (by omega)
  rw [e, Nat.toNat_testBit]
  simpa using this

/-- The state of a row: block g holds the slice and the number of bits; the slice's bytes are the bits. -/
def IsRow (w : World) (B g : Nat) (bl : List Bool) : Prop := ∃ v, Blk w g 61 #[v, .int .i64 (bl.length : Int)] ∧ w.ownsRow B 5 1 v (pack bl).length (bs (pack bl)) ∧ B ≤ w.heap.size
theorem pack_len1 (l : List Bool) (b : Bool) (h : l.length % 8 = 0) : (pack l).length = l.length / 8 := by rw [pack_length]; omega

/-- What a bit more makes of a row. -/
theorem row_step {W : World} {B g q C n : Nat} {bl : List Bool} {b : Bool} {ys : List UInt8} (hn : n = ys.length) (hg : g < B) (hB : B ≤ W.heap.size)
    (hb : Blk W g 61 #[.slice (some ⟨q, 0, none⟩) n C, .int .i64 (bl.length : Int)])
    (hown : W.ownsRow B 5 1 (.slice (some ⟨q, 0, none⟩) n C) n (bs ys)) (hq : B ≤ q) (hk : bl.length / 8 < n) (z : Nat) (hz : z < 256)
    (hp : pack (bl ++ [b]) = ys.set (bl.length / 8) (UInt8.ofNat z)) :
    IsRow (((W.setCell ⟨q, bl.length / 8, none⟩ (.int .u8 (z : Int))).setCell ⟨g, 1, none⟩ (.int .i64 ((bl.length : Int) + 1))).drew) B g (bl ++ [b]) := by
  subst hn
  have hl : (pack (bl ++ [b])).length = ys.length := by rw [hp]; simp
  refine ⟨.slice (some ⟨q, 0, none⟩) ys.length C, ?_, ?_, by simpa [World.setCell] using hB⟩
  · have h1 := (((hb.far (p := ⟨q, bl.length / 8, none⟩) (by show g ≠ q; omega) (.int .u8 (z : Int)))).set_ 1 (.int .i64 ((bl.length : Int) + 1))).drew
    simpa using h1
  · rw [hl, hp]
    have h2 := own_set hown (bl.length / 8) hk (.int .u8 (z : Int))
    have e : (bs ys).set (bl.length / 8) (.int .u8 (z : Int)) = bs (ys.set (bl.length / 8) (UInt8.ofNat z)) := by
      simp only [bs, List.map_set]
      congr 2
      simp only [UInt8.toNat_ofNat']
      omega
    rw [e] at h2
    exact own_far h2 (p := ⟨g, 1, none⟩) hg _

set_option maxRecDepth 100000 in
set_option maxHeartbeats 4000000 in
theorem put_any (x many g B : Nat) (bl : List Bool) (w : World) (hx : x < 512) (hm : many ≤ 9) (hl : bl.length ≤ 1500000000000000) (hg : g < B) (hR : IsRow w B g bl) :
    Calls Try.prog 24 #[.pointer (some ⟨g, 0, none⟩), .int .i64 x, .int .i64 many] w fun e w' => e = .returned (.tuple #[]) ∧ IsRow w' B g (bl ++ bitsOf many x) ∧ BelowBut B g w w' := by
  go_enter Try.func24, Try.ntmps24
  go_wp2
  go_loopw [6] (fun i wr => ∃ (m : Nat) (pre : List Bool), m ≤ many ∧ i = .int .i64 ((m : Int) - 1) ∧ Hid (bitsOf many x = pre ++ bitsOf m x) ∧ pre.length + m = many ∧ IsRow wr B g (bl ++ pre) ∧ BelowBut B g w wr) (fun i _ => (intOf i + 1).toNat)
  case atStart => exact ⟨many, [], Nat.le_refl _, rfl, rfl, by simp, by simpa using hR, BelowBut.refl _ _ _⟩
  case round =>
    obtain ⟨m, pre, hmm, rfl, HP, hpl, hRr, hbb⟩ := hrel
    clear hR
    rcases m with _ | i
    · have e := HP.out
      simp only [bitsOf, List.append_nil] at e
      have HE := Lib.hid e
      clear e HP
      go_wp2
      go_end0
      exact ⟨rfl, by rw [HE.out]; exact hRr, hbb⟩
    · have ei : (((i + 1 : Nat) : Int) - 1) = (i : Int) := by omega
      rw [ei]
      have e := HP.out
      rw [bitsOf, List.append_cons] at e
      have HE := Lib.hid e
      clear e HP ei
      obtain ⟨v, hblk, hown, hBs⟩ := hRr
      have hn : (bl ++ pre).length ≤ 1500000000000009 := by rw [List.length_append]; omega
      have HA := Lib.hid (i64_bit x i hx)
      generalize hN : bl ++ pre = N at *
      have hc1 := hblk.cell 1
      have hc0 := hblk.cell 0
      have hf0 := hblk.frozen 0
      have hf1 := hblk.frozen 1
      simp at hc0 hc1
      have hb1 : (x.testBit i).toNat ≤ 1 := by cases x.testBit i <;> decide
      have i8 : i ≤ 8 := by omega
      by_cases h8 : N.length % 8 = 0
      · have hpk := pack_snoc_new N (x.testBit i) h8
        have hlen := pack_len1 N (x.testBit i) h8
        have HK : Hid (pack (N ++ [x.testBit i]) = (pack N ++ [0]).set (N.length / 8) (UInt8.ofNat (0 + (x.testBit i).toNat * 2 ^ (7 - N.length % 8)))) := by
          show _ = _
          rw [hpk, ← hlen, List.set_append_right _ _ (Nat.le_refl _), Nat.sub_self, h8]
          simp
        have hO : bits .or .u8 (0 : Int) (((x.testBit i).toNat : Int) * 2 ^ (7 - N.length % 8) % 256) = ((0 + (x.testBit i).toNat * 2 ^ (7 - N.length % 8) : Nat) : Int) := u8_or_bit 0 (N.length % 8) (x.testBit i) (by decide) (by omega) (Nat.zero_mod _)
        have hz : 0 + (x.testBit i).toNat * 2 ^ (7 - N.length % 8) < 256 := by
          rw [h8]
          omega
        have HO := Lib.hid hO
        have h8' : (((N.length : Int) % 8) == 0) = true := by simp; omega
        have hbound : (pack N).length + 1 ≤ 225000000000000 := by omega
        have HLEN := Lib.hid hlen
        have hA := HA.out
        clear HA hpk h8 hlen hO
        generalize x.testBit i = b at *
        generalize 0 + b.toNat * 2 ^ (7 - N.length % 8) = z at *
        have HB0 := Lib.hid hblk
        clear hblk
        go_wp2_with (at_builtin; refine wpList_push_far rfl _ _ rfl B _ _ _ rfl hown rfl rfl hbound hBs ?_; intro v1 w1 hown1 hb1; clear hc0 hc1 hf0 hf1; obtain ⟨q, C, hv1, hBq, hq⟩ := hown1.form (Nat.succ_pos _); rw [hv1]; have hblk1 := HB0.out.below hb1 hg; have hc0 := hblk1.cell 0; have hc1 := hblk1.cell 1; have hf0 := hblk1.frozen 0; have hf1 := hblk1.frozen 1; simp at hc0 hc1; rw [hv1] at hown1; have hB1 := Nat.le_trans hBs hb1.size; have HB1 := Lib.hid (BelowBut.of (g := g) hb1); clear hb1)
        have hblk2 := hblk1.set_ 0 (.slice (some ⟨q, 0, none⟩) ((pack N).length + 1) C)
        have hown2 := own_far hown1 (p := ⟨g, 0, none⟩) hg (.slice (some ⟨q, 0, none⟩) ((pack N).length + 1) C)
        have hbW := (BelowBut.refl B g w1).setCell (p := ⟨g, 0, none⟩) (.inl rfl) (.slice (some ⟨q, 0, none⟩) ((pack N).length + 1) C)
        have hBW : B ≤ (w1.setCell ⟨g, 0, none⟩ (.slice (some ⟨q, 0, none⟩) ((pack N).length + 1) C)).heap.size := by simpa [World.setCell] using hB1
        clear hblk1 hown1 hc0 hc1 hf0 hf1
        generalize w1.setCell ⟨g, 0, none⟩ (.slice (some ⟨q, 0, none⟩) ((pack N).length + 1) C) = W at *
        simp at hblk2
        have e0 : bs (pack N) ++ [Value.int .u8 0] = bs (pack N ++ [0]) := by rw [bs_append]; rfl
        rw [e0] at hown2
        have hc0 := hblk2.cell 0
        have hc1 := hblk2.cell 1
        have hf1 := hblk2.frozen 1
        simp at hc0 hc1
        have hcy := own_cell hown2 (k := N.length / 8) (u := .int .u8 0) (by rw [bs, List.getElem?_map, ← HLEN.out]; simp)
        obtain ⟨hcy1, hcy2⟩ := hcy
        have hk : N.length / 8 < (pack N).length + 1 := by rw [HLEN.out]; omega
        have hO := HO.out
        have HBL := Lib.hid hblk2
        have HOW := Lib.hid hown2
        have HBW := Lib.hid hbW
        clear hblk2 hown2 HO hbW
        go_region
        go_wp2
        go_roundw
        case rel =>
          refine ⟨i, pre ++ [b], by omega, by go_num, HE.out, by simp; omega, ?_, ?_⟩
          · have h9 := row_step (b := b) (ys := pack N ++ [0]) (by simp) hg hBW HBL.out HOW.out hBq hk z hz HK.out
            rw [← List.append_assoc, hN]
            exact h9
          · exact hbb.trans (HB1.out.trans (HBW.out.trans ((((BelowBut.refl B g W).setCell (.inr hBq) _).setCell (.inl rfl) _).drew)))
        case measure => simp [intOf]
      · obtain ⟨y, hy, hy0, hy1, hpk⟩ := pack_snoc_in N (x.testBit i) h8
        have hk : N.length / 8 < (pack N).length := (List.getElem?_eq_some_iff.1 hy).1
        obtain ⟨q, C, rfl, hBq, hq⟩ := hown.form (by omega)
        have hcy := own_cell hown (k := N.length / 8) (u := .int .u8 (y.toNat : Int)) (by rw [bs, List.getElem?_map, hy]; rfl)
        obtain ⟨hcy1, hcy2⟩ := hcy
        have hyb : y.toNat < 256 := y.toNat_lt
        have HO := Lib.hid (u8_or_bit y.toNat (N.length % 8) (x.testBit i) hyb (by omega) hy0)
        have h8' : (((N.length : Int) % 8) == 0) = false := by simp; omega
        have HK := Lib.hid hpk
        have HBL := Lib.hid hblk
        have HOW := Lib.hid hown
        have hA := HA.out
        clear HA hpk hy hy0 h8 hblk hown
        generalize x.testBit i = b at *
        generalize y.toNat = yn at *
        generalize yn + b.toNat * 2 ^ (7 - N.length % 8) = z at *
        have hO := HO.out
        clear HO
        go_wp2
        go_region
        go_wp2
        go_roundw
        case rel =>
          refine ⟨i, pre ++ [b], by omega, by go_num, HE.out, by simp; omega, ?_, ?_⟩
          · have h9 := row_step (b := b) rfl hg hBs HBL.out HOW.out hBq hk z hy1 HK.out
            rw [← List.append_assoc, hN]
            exact h9
          · exact hbb.trans ((((BelowBut.refl B g wr).setCell (.inr hBq) _).setCell (.inl rfl) _).drew)
        case measure => simp [intOf]
end Go.Proofs.Ytkbbkamnmdeagaa
