/-
  Plain law: numbers as bytes, the high bytes first, and back. Nothing of the program.
  Bits of small numbers, in the model's words. Nothing of the program.
  The row of bits: strings.IndexByte at the frequent bytes, (*row).put, (*row).get. Conditions: the bounds that each names.
  (*row).get by its contract. Conditions: the bounds that it names.
  code.Encode and code.Bits by their contracts. Condition: the bound on the text's length.
-/
import Derived.Test.YtbgnggkgmeagkaaGreatDoorMTopLines01
import Derived.Laws.BitsAllLaws
import Derived.RegionTactic
import Derived.BigRegion
import Derived.ChangeAlike
import Derived.Deep.QuietTactic
import Derived.BigQuiet
import Derived.Lib.Bytealg
import Derived.Laws.StandIn
import Derived.Lib.ConvBytes
set_option linter.unusedSimpArgs false
set_option linter.unusedVariables false
namespace Go.Proofs.YtbgnggkgmeagkaaGreatDoor

/-- The most that so many bytes hold. -/
def most (s : Nat) : Nat := if s = 4 then 2147483647 else 256 ^ s - 1
/-- The number of bytes, the high ones first. -/
def beNat (l : List UInt8) : Nat := l.foldl (fun n c => n * 256 + c.toNat) 0
/-- A number as so many bytes. -/
def beBytes : Nat → Nat → List UInt8
  | 0, _ => []
  | s + 1, n => UInt8.ofNat (n / 256 ^ s) :: beBytes s n

theorem beBytes_length (s n : Nat) : (beBytes s n).length = s := by
  induction s with
  | zero => rfl
  | succ s ih => simp [beBytes, ih]
theorem beNat_append (a : List UInt8) (c : UInt8) : beNat (a ++ [c]) = beNat a * 256 + c.toNat := by simp [beNat]
theorem beNat_nil : beNat [] = 0 := rfl
theorem foldl_be (l : List UInt8) : ∀ n : Nat, l.foldl (fun n c => n * 256 + c.toNat) n = n * 256 ^ l.length + beNat l := by
  induction l with
  | nil => intro n; simp [beNat]
  | cons c r ih =>
    intro n
    simp only [List.foldl_cons, List.length_cons, beNat, Nat.zero_mul, Nat.zero_add]
    rw [ih, ih c.toNat, Nat.pow_succ]
    rw [Nat.add_mul, Nat.mul_assoc, Nat.mul_comm 256, Nat.add_assoc]
theorem beNat_cons (c : UInt8) (l : List UInt8) : beNat (c :: l) = c.toNat * 256 ^ l.length + beNat l := by
  have h := foldl_be l c.toNat
  simpa [beNat] using h
theorem beNat_lt (l : List UInt8) : beNat l < 256 ^ l.length := by
  induction l with
  | nil => simp [beNat]
  | cons c r ih =>
    rw [beNat_cons, List.length_cons, Nat.pow_succ]
    have := c.toNat_lt
    have h1 : c.toNat * 256 ^ r.length ≤ 255 * 256 ^ r.length := Nat.mul_le_mul_right _ (by omega)
    omega
theorem beNat_take_succ (l : List UInt8) (k : Nat) (h : k < l.length) : beNat (l.take (k + 1)) = beNat (l.take k) * 256 + l[k].toNat := by
  rw [List.take_succ_eq_append_getElem h, beNat_append]
theorem beNat_le_pow (l : List UInt8) (k : Nat) (h : l.length ≤ k) : beNat l < 256 ^ k :=
  Nat.lt_of_lt_of_le (beNat_lt l) (Nat.pow_le_pow_right (by omega) h)
theorem beNat_take_lt (l : List UInt8) (k : Nat) : beNat (l.take k) < 256 ^ k := beNat_le_pow _ _ (List.length_take_le _ _)
theorem most_lt (s : Nat) (h : s ≤ 4) : most s < 256 ^ s ∧ most s ≤ 2147483647 := by
  unfold most
  rcases (by omega : s = 0 ∨ s = 1 ∨ s = 2 ∨ s = 3 ∨ s = 4) with rfl | rfl | rfl | rfl | rfl <;> simp
theorem beNat_bytes (s n : Nat) (h : n < 256 ^ s) : beNat (beBytes s n) = n := by
  induction s generalizing n with
  | zero => simp at h; simp [beBytes, beNat, h]
  | succ s ih =>
    have aux : ∀ m, beNat (beBytes s m) = m % 256 ^ s := by
      intro m
      have e : ∀ t m, t ≤ s → beBytes t m = beBytes t (m % 256 ^ s) := by
        intro t
        induction t with
        | zero => intro m _; rfl
        | succ t iht =>
          intro m ht
          have h1 : (256 : Nat) ^ s = 256 ^ t * (256 * 256 ^ (s - t - 1)) := by
            rw [← Nat.pow_succ', ← Nat.pow_add]
            congr 1
            omega
          have h2 : m % 256 ^ s / 256 ^ t = m / 256 ^ t % (256 * 256 ^ (s - t - 1)) := by
            rw [h1, Nat.mod_mul_right_div_self]
          have h3 : UInt8.ofNat (m / 256 ^ t) = UInt8.ofNat (m % 256 ^ s / 256 ^ t) := by
            rw [h2]
            apply UInt8.toNat_inj.1
            simp only [UInt8.toNat_ofNat']
            rw [Nat.mod_mul_right_mod]
          simp only [beBytes]
          rw [h3, ← iht m (by omega)]
      rw [e s m (Nat.le_refl _)]
      exact ih _ (Nat.mod_lt _ (Nat.pow_pos (by omega)))
    simp only [beBytes]
    rw [beNat_cons, beBytes_length, aux]
    have h4 : n / 256 ^ s < 256 := by
      rw [Nat.pow_succ, Nat.mul_comm] at h
      exact Nat.div_lt_of_lt_mul (by rw [Nat.mul_comm]; exact h)
    simp only [UInt8.toNat_ofNat']
    rw [Nat.mod_eq_of_lt (by simpa using h4), Nat.mul_comm]
    exact Nat.div_add_mod n (256 ^ s)
theorem beBytes_nat (l : List UInt8) : beBytes l.length (beNat l) = l := by
  have key : ∀ (l : List UInt8) (m : Nat), beBytes l.length (m * 256 ^ l.length + beNat l) = l := by
    intro l
    induction l with
    | nil => intro m; rfl
    | cons c r ih =>
      intro m
      simp only [List.length_cons, beBytes]
      rw [beNat_cons]
      have hlt := beNat_lt r
      have hp : 0 < 256 ^ r.length := Nat.pow_pos (by omega)
      have e1 : m * 256 ^ (r.length + 1) + (c.toNat * 256 ^ r.length + beNat r) = (m * 256 + c.toNat) * 256 ^ r.length + beNat r := by
        rw [Nat.pow_succ', Nat.add_mul, Nat.mul_assoc]; omega
      rw [e1, ih]
      congr 1
      rw [Nat.mul_comm, Nat.mul_add_div hp, Nat.div_eq_of_lt hlt]
      apply UInt8.toNat_inj.1
      simp only [UInt8.toNat_ofNat']
      have := c.toNat_lt
      omega
  have := key l 0
  simpa using this
theorem beBytes_at (s n k : Nat) (h : k < s) : (beBytes s n)[k]? = some (UInt8.ofNat (n / 256 ^ (s - 1 - k))) := by
  induction s generalizing k with
  | zero => omega
  | succ s ih =>
    cases k with
    | zero => simp [beBytes]
    | succ k =>
      simp only [beBytes, List.getElem?_cons_succ]
      rw [ih k (by omega)]
      congr 4
      omega
theorem beBytes_take (s n k : Nat) (h : k < s) : (beBytes s n).take (k + 1) = (beBytes s n).take k ++ [UInt8.ofNat (n / 256 ^ (s - 1 - k))] := by
  rw [List.take_add_one, beBytes_at s n k h]
  rfl
theorem ipow_le {a b : Nat} (h : a ≤ b) : (2 : Int) ^ a ≤ 2 ^ b := by
  have h1 : (2 : Nat) ^ a ≤ 2 ^ b := Nat.pow_le_pow_right (by omega) h
  exact_mod_cast h1
theorem ipow_pos (a : Nat) : (0 : Int) < 2 ^ a := Int.pow_pos (by omega)
end Go.Proofs.YtbgnggkgmeagkaaGreatDoor
namespace Go.Proofs.YtbgnggkgmeagkaaGreatDoor
open Go.RowKit

theorem ofInt64 (a : Nat) (ha : a < 9223372036854775808) : (BitVec.ofInt 64 (a : Int)).toNat = a := by
  rw [BitVec.ofInt_natCast, BitVec.toNat_ofNat]; exact Nat.mod_eq_of_lt (by omega)
theorem ofInt8 (a : Nat) (ha : a < 256) : (BitVec.ofInt 8 (a : Int)).toNat = a := by
  rw [BitVec.ofInt_natCast, BitVec.toNat_ofNat]; exact Nat.mod_eq_of_lt (by omega)
/-- 'x & (2^t - 1)' is the remainder by 2^t. -/
theorem i64_mask (x t : Nat) (hx : x < 4611686018427387904) (ht : t ≤ 61) : bits .and .i64 (x : Int) ((2 ^ t : Nat) - 1) = ((x % 2 ^ t : Nat) : Int) := by
  have hp : 2 ^ t ≤ 2 ^ 61 := Nat.pow_le_pow_right (by omega) ht
  have hp1 : 1 ≤ 2 ^ t := Nat.one_le_two_pow
  have e : ((2 ^ t : Nat) : Int) - 1 = ((2 ^ t - 1 : Nat) : Int) := by omega
  rw [e]
  show IntKind.i64.wrap ((BitVec.ofInt 64 (x : Int) &&& BitVec.ofInt 64 ((2 ^ t - 1 : Nat) : Int)).toNat : Int) = _
  rw [BitVec.toNat_and, ofInt64 x (by omega), ofInt64 _ (by omega), Nat.and_two_pow_sub_one_eq_mod, IntKind.wrap_i64]
  have := Nat.mod_lt x (show 0 < 2 ^ t by omega)
  omega
/-- 'x | y' where y fits below x's last bit that is set. -/
theorem i64_or_low (x y t : Nat) (hx : x * 2 ^ t < 4611686018427387904) (hy : y < 2 ^ t) (ht : t ≤ 61) : bits .or .i64 ((x * 2 ^ t : Nat) : Int) (y : Int) = ((x * 2 ^ t + y : Nat) : Int) := by
  have hp : 2 ^ t ≤ 2 ^ 61 := Nat.pow_le_pow_right (by omega) ht
  show IntKind.i64.wrap ((BitVec.ofInt 64 ((x * 2 ^ t : Nat) : Int) ||| BitVec.ofInt 64 (y : Int)).toNat : Int) = _
  rw [BitVec.toNat_or, ofInt64 _ (by omega), ofInt64 y (by omega)]
  have h3 : x * 2 ^ t ||| y = x * 2 ^ t + y := by
    have := Nat.shiftLeft_add_eq_or_of_lt hy x
    rw [show x * 2 ^ t = x <<< t from by rw [Nat.shiftLeft_eq]]
    exact this.symm
  rw [h3, IntKind.wrap_i64]
  omega
theorem u8_mask7 (y : Nat) (h : y < 256) : bits .and .u8 (y : Int) 127 = ((y % 128 : Nat) : Int) := by
  have h1 : (127 : Int) = ((2 ^ 7 - 1 : Nat) : Int) := by decide
  rw [h1]
  show IntKind.u8.wrap ((BitVec.ofInt 8 (y : Int) &&& BitVec.ofInt 8 ((2 ^ 7 - 1 : Nat) : Int)).toNat : Int) = _
  rw [BitVec.toNat_and, ofInt8 y h, ofInt8 _ (by decide), Nat.and_two_pow_sub_one_eq_mod, IntKind.wrap_u8]
  omega
theorem u8_or_high (y : Nat) (h : y < 256) : bits .or .u8 (y : Int) 128 = ((y % 128 + 128 : Nat) : Int) := by
  have h1 : (128 : Int) = ((128 : Nat) : Int) := by decide
  rw [h1]
  show IntKind.u8.wrap ((BitVec.ofInt 8 (y : Int) ||| BitVec.ofInt 8 ((128 : Nat) : Int)).toNat : Int) = _
  rw [BitVec.toNat_or, ofInt8 y h, ofInt8 _ (by decide), IntKind.wrap_u8]
  have hall : ∀ y : Fin 256, y.val ||| 128 = y.val % 128 + 128 := by decide +kernel
  rw [hall ⟨y, h⟩]
  show ((y % 128 + 128 : Nat) : Int) % 256 = _
  omega
end Go.Proofs.YtbgnggkgmeagkaaGreatDoor
namespace Go.Proofs.YtbgnggkgmeagkaaGreatDoor
open Go.RowKit

/-- Below block number B nothing but block g has turned. -/
structure BelowBut (B g : Nat) (w w' : World) : Prop where
  os : w'.os = w.os
  tape : w'.tape = w.tape
  output : w'.output = w.output
  size : w.heap.size ≤ w'.heap.size
  block : ∀ k, k < B → k ≠ g → w'.heap[k]? = w.heap[k]?
theorem BelowBut.refl (B g : Nat) (w : World) : BelowBut B g w w := ⟨rfl, rfl, rfl, Nat.le_refl _, fun _ _ _ => rfl⟩
theorem BelowBut.trans {B g : Nat} {a b c : World} (h : BelowBut B g a b) (k : BelowBut B g b c) : BelowBut B g a c :=
  ⟨k.os.trans h.os, k.tape.trans h.tape, k.output.trans h.output, Nat.le_trans h.size k.size, fun i hi hg => (k.block i hi hg).trans (h.block i hi hg)⟩
theorem BelowBut.of {B g : Nat} {a b : World} (h : Below B a b) : BelowBut B g a b := ⟨h.os, h.tape, h.output, h.size, fun k hk _ => h.block k hk⟩
theorem BelowBut.drew {B g : Nat} {a b : World} (h : BelowBut B g a b) : BelowBut B g a b.drew := ⟨h.os, h.tape, h.output, h.size, h.block⟩
theorem BelowBut.drewN {B g : Nat} {a b : World} (h : BelowBut B g a b) (n : Nat) : BelowBut B g a (b.drewN n) := ⟨h.os, h.tape, h.output, h.size, h.block⟩
theorem BelowBut.setCell {B g : Nat} {a b : World} (h : BelowBut B g a b) {p : Addr} (hp : p.block = g ∨ B ≤ p.block) (u : Value) : BelowBut B g a (b.setCell p u) :=
  h.trans ⟨rfl, rfl, rfl, by simp [World.setCell], fun k hk hg => Below.heap_setCell _ _ _ _ (by rcases hp with hp | hp <;> omega)⟩
theorem BelowBut.below {B B' g : Nat} {a b : World} (h : BelowBut B g a b) (hB : B' ≤ B) (hg : B' ≤ g) : Below B' a b := ⟨h.os, h.tape, h.output, h.size, fun k hk => h.block k (by omega) (by omega)⟩
theorem BelowBut.cell {B g : Nat} {a b : World} (h : BelowBut B g a b) {p : Addr} (hp : p.block < B) (hg : p.block ≠ g) : b.cell? p = a.cell? p := World.cell?_of_block (w := a) (h.block p.block hp hg)

theorem idx_any (c : UInt8) (w : World) :
    Calls Tryz.prog 78 #[.string ⟨often.toArray⟩, .int .u8 (c.toNat : Int)] w fun e w' => e = .returned (.int .i64 (oidx c)) ∧ w = w' := by
  have hx := @run_callFunc_indexByte Tryz.prog 201 _ Tryz.func201 (by kernel_rfl) (by kernel_rfl) (by kernel_rfl) (by kernel_rfl)
  have hr := fun W => Lib.run_indexByteString (P := Tryz.prog) ⟨often.toArray⟩ (c.toNat : Int) W
  have ho : Lib.indexByte (ByteArray.mk often.toArray).data.toList ((c.toNat : Int)).toNat.toUInt8 = oidx c := by
    simp [oidx]
  rw [ho] at hr
  go_enter Tryz.func78, Tryz.ntmps78
  go_wp2
  go_ret
  exact ⟨rfl, rfl⟩

theorem own_set {w : World} {base : Nat} {e : TypeId} {q n c : Nat} {xs : List Value} (h : w.ownsRow base e 1 (.slice (some ⟨q, 0, none⟩) n c) n xs) (k : Nat) (hk : k < n) (u : Value) :
    (w.setCell ⟨q, k, none⟩ u).ownsRow base e 1 (.slice (some ⟨q, 0, none⟩) n c) n (xs.set k u) := by
  obtain ⟨h1, h2⟩ := h
  refine ⟨by simpa using h1, ?_⟩
  rcases h2 with ⟨h2, _⟩ | ⟨g, cap, cur, hv, hg, hh, hn, hm, hs, ht⟩
  · cases h2
  · injection hv with hv1 _ hv3
    injection hv1 with hv1
    injection hv1 with hv1
    subst hv1 hv3
    refine .inr ⟨q, c, cur.setIfInBounds k u, rfl, hg, Blk.set_ hh k u, hn, hm, by simpa using hs, ?_⟩
    rw [Array.toList_setIfInBounds, List.take_set, ht]
theorem own_cell {w : World} {base : Nat} {e : TypeId} {q n c : Nat} {xs : List Value} (h : w.ownsRow base e 1 (.slice (some ⟨q, 0, none⟩) n c) n xs) {k : Nat} {u : Value} (hk : xs[k]? = some u) :
    w.cell? ⟨q, k, none⟩ = some u ∧ w.frozen? ⟨q, k, none⟩ = false := by
  refine ⟨by simpa [Addr.add_lit] using h.cells (g := q) rfl k u hk, ?_⟩
  rcases h.2 with ⟨h2, _⟩ | ⟨g, cap, cur, hv, hg, hh, _⟩
  · cases h2
  · injection hv with hv1
    injection hv1 with hv1
    injection hv1 with hv1
    subst hv1
    exact Blk.frozen hh k
theorem own_far {w : World} {base : Nat} {e : TypeId} {size n : Nat} {v : Value} {xs : List Value} (h : w.ownsRow base e size v n xs) {p : Addr} (hp : p.block < base) (u : Value) : (w.setCell p u).ownsRow base e size v n xs :=
  ownsRow_setCell_below h hp u

/-- 'y | bit << (7 - r)' where y has nothing from there on. -/
theorem u8_or_bit (y r : Nat) (b : Bool) (hy : y < 256) (hr : r < 8) (h0 : y % 2 ^ (8 - r) = 0) : bits .or .u8 (y : Int) ((b.toNat : Int) * 2 ^ (7 - r) % 256) = ((y + b.toNat * 2 ^ (7 - r) : Nat) : Int) := by
  have hb : b.toNat ≤ 1 := by cases b <;> decide
  have hall : ∀ y : Fin 256, ∀ r : Fin 8, ∀ b : Fin 2, y.val % 2 ^ (8 - r.val) = 0 → (y.val ||| b.val * 2 ^ (7 - r.val)) = y.val + b.val * 2 ^ (7 - r.val) ∧ y.val + b.val * 2 ^ (7 - r.val) < 256 ∧ b.val * 2 ^ (7 - r.val) < 256 := by decide +kernel
  obtain ⟨h1, h2, h3⟩ := hall ⟨y, hy⟩ ⟨r, hr⟩ ⟨b.toNat, by omega⟩ h0
  simp only at h1 h2 h3
  have e : ((b.toNat : Int) * 2 ^ (7 - r) % 256) = ((b.toNat * 2 ^ (7 - r) : Nat) : Int) := by
    have : ((b.toNat : Int) * 2 ^ (7 - r)) = ((b.toNat * 2 ^ (7 - r) : Nat) : Int) := by simp
    rw [this]
    omega
  rw [e]
  show IntKind.u8.wrap ((BitVec.ofInt 8 (y : Int) ||| BitVec.ofInt 8 ((b.toNat * 2 ^ (7 - r) : Nat) : Int)).toNat : Int) = _
  rw [BitVec.toNat_or, ofInt8 y hy, ofInt8 _ h3, h1, IntKind.wrap_u8]
  omega
theorem i64_bit (x i : Nat) (hx : x < 512) : bits .and .i64 ((x : Int) / 2 ^ i) 1 = ((x.testBit i).toNat : Int) := by
  have e : (x : Int) / 2 ^ i = ((x / 2 ^ i : Nat) : Int) := by simp
  have h1 : x / 2 ^ i ≤ x := Nat.div_le_self ..
  have := i64_mask (x / 2 ^ i) 1 (by omega) (by omega)
  rw [e, Nat.toNat_testBit]
  simpa using this

/-- The state of a row: block g holds the slice and the number of bits; the slice's bytes are the bits. -/
def IsRow (w : World) (B g : Nat) (bl : List Bool) : Prop := ∃ v, Blk w g 298 #[v, .int .i64 (bl.length : Int)] ∧ w.ownsRow B 5 1 v (pack bl).length (bs (pack bl)) ∧ B ≤ w.heap.size
theorem pack_len1 (l : List Bool) (b : Bool) (h : l.length % 8 = 0) : (pack l).length = l.length / 8 := by rw [pack_length]; omega

/-- What a bit more makes of a row. -/
theorem row_step {W : World} {B g q C n : Nat} {bl : List Bool} {b : Bool} {ys : List UInt8} (hn : n = ys.length) (hg : g < B) (hB : B ≤ W.heap.size)
    (hb : Blk W g 298 #[.slice (some ⟨q, 0, none⟩) n C, .int .i64 (bl.length : Int)])
    (hown : W.ownsRow B 5 1 (.slice (some ⟨q, 0, none⟩) n C) n (bs ys)) (hq : B ≤ q) (hk : bl.length / 8 < n) (z : Nat) (hz : z < 256)
    (hp : pack (bl ++ [b]) = ys.set (bl.length / 8) (UInt8.ofNat z)) :
    IsRow (((W.setCell ⟨q, bl.length / 8, none⟩ (.int .u8 (z : Int))).setCell ⟨g, 1, none⟩ (.int .i64 ((bl.length : Int) + 1))).drew) B g (bl ++ [b]) := by
  subst hn
  have hl : (pack (bl ++ [b])).length = ys.length := by rw [hp]; simp
  refine ⟨.slice (some ⟨q, 0, none⟩) ys.length C, ?_, ?_, by simpa [World.setCell] using hB⟩
  · have h1 := (((hb.far (p := ⟨q, bl.length / 8, none⟩) (by show g ≠ q; omega) (.int .u8 (z : Int)))).set_ 1 (.int .i64 ((bl.length : Int) + 1))).drew
    simpa using h1
  · rw [hl, hp]
    have h2 := own_set hown (bl.length / 8) hk (.int .u8 (z : Int))
    have e : (bs ys).set (bl.length / 8) (.int .u8 (z : Int)) = bs (ys.set (bl.length / 8) (UInt8.ofNat z)) := by
      simp only [bs, List.map_set]
      congr 2
      simp only [UInt8.toNat_ofNat']
      omega
    rw [e] at h2
    exact own_far h2 (p := ⟨g, 1, none⟩) hg _

set_option maxRecDepth 100000 in
set_option maxHeartbeats 4000000 in
theorem put_any (x many g B : Nat) (bl : List Bool) (w : World) (hx : x < 512) (hm : many ≤ 9) (hl : bl.length ≤ 1099511627776) (hg : g < B) (hR : IsRow w B g bl) :
    Calls Tryz.prog 206 #[.pointer (some ⟨g, 0, none⟩), .int .i64 x, .int .i64 many] w fun e w' => e = .returned (.tuple #[]) ∧ IsRow w' B g (bl ++ bitsOf many x) ∧ BelowBut B g w w' := by
  go_enter Tryz.func206, Tryz.ntmps206
  go_wp2
  go_loopw [6] (fun i wr => ∃ (m : Nat) (pre : List Bool), m ≤ many ∧ i = .int .i64 ((m : Int) - 1) ∧ Hid (bitsOf many x = pre ++ bitsOf m x) ∧ pre.length + m = many ∧ IsRow wr B g (bl ++ pre) ∧ BelowBut B g w wr) (fun i _ => (intOf i + 1).toNat)
  case atStart => exact ⟨many, [], Nat.le_refl _, rfl, rfl, by simp, by simpa using hR, BelowBut.refl _ _ _⟩
  case round =>
    obtain ⟨m, pre, hmm, rfl, HP, hpl, hRr, hbb⟩ := hrel
    clear hR
    rcases m with _ | i
    · have e := HP.out
      simp only [bitsOf, List.append_nil] at e
      have HE := Lib.hid e
      clear e HP
      go_wp2
      go_end0
      exact ⟨rfl, by rw [HE.out]; exact hRr, hbb⟩
    · have ei : (((i + 1 : Nat) : Int) - 1) = (i : Int) := by omega
      rw [ei]
      have e := HP.out
      rw [bitsOf, List.append_cons] at e
      have HE := Lib.hid e
      clear e HP ei
      obtain ⟨v, hblk, hown, hBs⟩ := hRr
      have hn : (bl ++ pre).length ≤ 1099511627785 := by rw [List.length_append]; omega
      have HA := Lib.hid (i64_bit x i hx)
      generalize hN : bl ++ pre = N at *
      have hc1 := hblk.cell 1
      have hc0 := hblk.cell 0
      have hf0 := hblk.frozen 0
      have hf1 := hblk.frozen 1
      simp at hc0 hc1
      have hb1 : (x.testBit i).toNat ≤ 1 := by cases x.testBit i <;> decide
      have i8 : i ≤ 8 := by omega
      by_cases h8 : N.length % 8 = 0
      · have hpk := pack_snoc_new N (x.testBit i) h8
        have hlen := pack_len1 N (x.testBit i) h8
        have HK : Hid (pack (N ++ [x.testBit i]) = (pack N ++ [0]).set (N.length / 8) (UInt8.ofNat (0 + (x.testBit i).toNat * 2 ^ (7 - N.length % 8)))) := by
          show _ = _
          rw [hpk, ← hlen, List.set_append_right _ _ (Nat.le_refl _), Nat.sub_self, h8]
          simp
        have hO : bits .or .u8 (0 : Int) (((x.testBit i).toNat : Int) * 2 ^ (7 - N.length % 8) % 256) = ((0 + (x.testBit i).toNat * 2 ^ (7 - N.length % 8) : Nat) : Int) := u8_or_bit 0 (N.length % 8) (x.testBit i) (by decide) (by omega) (Nat.zero_mod _)
        have hz : 0 + (x.testBit i).toNat * 2 ^ (7 - N.length % 8) < 256 := by
          rw [h8]
          omega
        have HO := Lib.hid hO
        have h8' : (((N.length : Int) % 8) == 0) = true := by simp; omega
        have hbound : (pack N).length + 1 ≤ 140737488355328 := by omega
        have HLEN := Lib.hid hlen
        have hA := HA.out
        clear HA hpk h8 hlen hO
        generalize x.testBit i = b at *
        generalize 0 + b.toNat * 2 ^ (7 - N.length % 8) = z at *
        have HB0 := Lib.hid hblk
        clear hblk
        go_wp2_with (at_builtin; refine wpList_push rfl _ _ rfl B _ _ _ rfl hown rfl rfl hbound hBs ?_; intro v1 w1 hown1 hb1; clear hc0 hc1 hf0 hf1; obtain ⟨q, C, hv1, hBq, hq⟩ := hown1.form (Nat.succ_pos _); rw [hv1]; have hblk1 := HB0.out.below hb1 hg; have hc0 := hblk1.cell 0; have hc1 := hblk1.cell 1; have hf0 := hblk1.frozen 0; have hf1 := hblk1.frozen 1; simp at hc0 hc1; rw [hv1] at hown1; have hB1 := Nat.le_trans hBs hb1.size; have HB1 := Lib.hid (BelowBut.of (g := g) hb1); clear hb1)
        have hblk2 := hblk1.set_ 0 (.slice (some ⟨q, 0, none⟩) ((pack N).length + 1) C)
        have hown2 := own_far hown1 (p := ⟨g, 0, none⟩) hg (.slice (some ⟨q, 0, none⟩) ((pack N).length + 1) C)
        have hbW := (BelowBut.refl B g w1).setCell (p := ⟨g, 0, none⟩) (.inl rfl) (.slice (some ⟨q, 0, none⟩) ((pack N).length + 1) C)
        have hBW : B ≤ (w1.setCell ⟨g, 0, none⟩ (.slice (some ⟨q, 0, none⟩) ((pack N).length + 1) C)).heap.size := by simpa [World.setCell] using hB1
        clear hblk1 hown1 hc0 hc1 hf0 hf1
        generalize w1.setCell ⟨g, 0, none⟩ (.slice (some ⟨q, 0, none⟩) ((pack N).length + 1) C) = W at *
        simp at hblk2
        have e0 : bs (pack N) ++ [Value.int .u8 0] = bs (pack N ++ [0]) := by rw [bs_append]; rfl
        rw [e0] at hown2
        have hc0 := hblk2.cell 0
        have hc1 := hblk2.cell 1
        have hf1 := hblk2.frozen 1
        simp at hc0 hc1
        have hcy := own_cell hown2 (k := N.length / 8) (u := .int .u8 0) (by rw [bs, List.getElem?_map, ← HLEN.out]; simp)
        obtain ⟨hcy1, hcy2⟩ := hcy
        have hk : N.length / 8 < (pack N).length + 1 := by rw [HLEN.out]; omega
        have hO := HO.out
        have HBL := Lib.hid hblk2
        have HOW := Lib.hid hown2
        have HBW := Lib.hid hbW
        clear hblk2 hown2 HO hbW
        go_region
        go_wp2
        go_roundw
        case rel =>
          refine ⟨i, pre ++ [b], by omega, by go_num, HE.out, by simp; omega, ?_, ?_⟩
          · have h9 := row_step (b := b) (ys := pack N ++ [0]) (by simp) hg hBW HBL.out HOW.out hBq hk z hz HK.out
            rw [← List.append_assoc, hN]
            exact h9
          · exact hbb.trans (HB1.out.trans (HBW.out.trans ((((BelowBut.refl B g W).setCell (.inr hBq) _).setCell (.inl rfl) _).drew)))
        case measure => simp [intOf]
      · obtain ⟨y, hy, hy0, hy1, hpk⟩ := pack_snoc_in N (x.testBit i) h8
        have hk : N.length / 8 < (pack N).length := (List.getElem?_eq_some_iff.1 hy).1
        obtain ⟨q, C, rfl, hBq, hq⟩ := hown.form (by omega)
        have hcy := own_cell hown (k := N.length / 8) (u := .int .u8 (y.toNat : Int)) (by rw [bs, List.getElem?_map, hy]; rfl)
        obtain ⟨hcy1, hcy2⟩ := hcy
        have hyb : y.toNat < 256 := y.toNat_lt
        have HO := Lib.hid (u8_or_bit y.toNat (N.length % 8) (x.testBit i) hyb (by omega) hy0)
        have h8' : (((N.length : Int) % 8) == 0) = false := by simp; omega
        have HK := Lib.hid hpk
        have HBL := Lib.hid hblk
        have HOW := Lib.hid hown
        have hA := HA.out
        clear HA hpk hy hy0 h8 hblk hown
        generalize x.testBit i = b at *
        generalize y.toNat = yn at *
        generalize yn + b.toNat * 2 ^ (7 - N.length % 8) = z at *
        have hO := HO.out
        clear HO
        go_wp2
        go_region
        go_wp2
        go_roundw
        case rel =>
          refine ⟨i, pre ++ [b], by omega, by go_num, HE.out, by simp; omega, ?_, ?_⟩
          · have h9 := row_step (b := b) rfl hg hBs HBL.out HOW.out hBq hk z hy1 HK.out
            rw [← List.append_assoc, hN]
            exact h9
          · exact hbb.trans ((((BelowBut.refl B g wr).setCell (.inr hBq) _).setCell (.inl rfl) _).drew)
        case measure => simp [intOf]
end Go.Proofs.YtbgnggkgmeagkaaGreatDoor
namespace Go.Proofs.YtbgnggkgmeagkaaGreatDoor
open Go.RowKit

theorem bitsOf_at (m x k : Nat) (h : k < m) : (bitsOf m x)[k]? = some (x.testBit (m - 1 - k)) := by
  induction m generalizing k with
  | zero => omega
  | succ m ih =>
    cases k with
    | zero => simp [bitsOf]
    | succ k =>
      rw [bitsOf, List.getElem?_cons_succ, ih k (by omega)]
      congr 2
      omega
theorem unpack_at (b : List UInt8) : ∀ (m : Nat) (y : UInt8), b[m / 8]? = some y → (unpack b)[m]? = some (y.toNat.testBit (7 - m % 8)) := by
  induction b with
  | nil => intro m y h; simp at h
  | cons c b ih =>
    intro m y h
    have e : unpack (c :: b) = bitsOf 8 c.toNat ++ unpack b := rfl
    rw [e]
    by_cases h8 : m < 8
    · have h0 : m / 8 = 0 := Nat.div_eq_of_lt h8
      rw [h0] at h
      simp at h
      subst h
      rw [List.getElem?_append_left (by rw [bitsOf_length]; exact h8), bitsOf_at 8 _ m h8]
      congr 2
      omega
    · rw [List.getElem?_append_right (by rw [bitsOf_length]; omega), bitsOf_length]
      have e1 : m / 8 = (m - 8) / 8 + 1 := by omega
      rw [e1, List.getElem?_cons_succ] at h
      rw [ih (m - 8) y h]
      congr 2
      omega
theorem u8_bit (y r : Nat) (hy : y < 256) : bits .and .u8 ((y : Int) / 2 ^ r) 1 = ((y.testBit r).toNat : Int) := by
  have e : (y : Int) / 2 ^ r = ((y / 2 ^ r : Nat) : Int) := by simp
  have h1 : y / 2 ^ r ≤ y := Nat.div_le_self ..
  rw [e, Nat.toNat_testBit]
  generalize y / 2 ^ r = z at *
  have h2 : (1 : Int) = ((2 ^ 1 - 1 : Nat) : Int) := by decide
  rw [h2]
  show IntKind.u8.wrap ((BitVec.ofInt 8 (z : Int) &&& BitVec.ofInt 8 ((2 ^ 1 - 1 : Nat) : Int)).toNat : Int) = _
  rw [BitVec.toNat_and, ofInt8 z (by omega), ofInt8 _ (by decide), Nat.and_two_pow_sub_one_eq_mod, IntKind.wrap_u8]
  omega
theorem i64_or_one (x : Nat) (b : Bool) (hx : x < 1048576) : bits .or .i64 ((x : Int) * 2) (b.toNat : Int) = ((2 * x + b.toNat : Nat) : Int) := by
  have hb : b.toNat < 2 := by cases b <;> decide
  have h := i64_or_low x b.toNat 1 (by omega) (by simpa using hb) (by omega)
  have e : ((x * 2 ^ 1 : Nat) : Int) = (x : Int) * 2 := by simp
  rw [e] at h
  rw [h]
  congr 1
  omega

set_option maxRecDepth 100000 in
set_option maxHeartbeats 2000000 in
theorem get_any (many g n c : Nat) (A : Option Addr) (l : List UInt8) (w : World) (hm : many ≤ 9) (hl : l.length ≤ 140737488355328) (hn : n + many ≤ 8 * l.length)
    (hB : Blk w g 298 #[.slice A l.length c, .int .i64 (n : Int)]) (B : Nat) (hr : Reads w B 1 A l.length (bs l)) (hgB : ∀ ad, A = some ad → ad.block ≠ g) :
    Calls Tryz.prog 311 #[.pointer (some ⟨g, 0, none⟩), .int .i64 many] w fun e w' => e = .returned (.int .i64 (val (((unpack l).drop n).take many) : Nat)) ∧ Blk w' g 298 #[.slice A l.length c, .int .i64 ((n + many : Nat) : Int)] ∧ BelowBut w.heap.size g w w' := by
  have hul := unpack_length l
  go_enter Tryz.func311, Tryz.ntmps311
  go_wp2
  go_loopw [5, 7] (fun x i wr => ∃ k : Nat, k ≤ many ∧ i = .int .i64 k ∧ x = .int .i64 (val (((unpack l).drop n).take k) : Nat) ∧ Blk wr g 298 #[.slice A l.length c, .int .i64 ((n + k : Nat) : Int)] ∧ BelowBut w.heap.size g w wr) (fun _ i _ => many - (intOf i).toNat)
  case atStart => exact ⟨0, Nat.zero_le _, rfl, rfl, hB, BelowBut.refl _ _ _⟩
  case round =>
    obtain ⟨k, hk, rfl, rfl, hb, hbb⟩ := hrel
    clear hB
    by_cases hlt : k < many
    · have hi : (n + k) / 8 < l.length := by omega
      obtain ⟨b, off, rfl, hbB, hcl⟩ := reads_byte hr hi
      have hcl2 : wr.cell? ⟨b, off + (n + k) / 8, none⟩ = some (.int .u8 (l[(n + k) / 8].toNat : Int)) := by
        rw [hbb.cell (p := ⟨b, off + (n + k) / 8, none⟩) (World.block_lt_of_cell? w _ hcl) (hgB ⟨b, off, none⟩ rfl)]
        exact hcl
      have hat := unpack_at l (n + k) l[(n + k) / 8] (List.getElem?_eq_getElem hi)
      have hv : val (((unpack l).drop n).take (k + 1)) = 2 * val (((unpack l).drop n).take k) + (l[(n + k) / 8].toNat.testBit (7 - (n + k) % 8)).toNat := by
        rw [List.take_add_one, List.getElem?_drop, hat]
        exact val_snoc _ _
      have hyb : l[(n + k) / 8].toNat < 256 := l[(n + k) / 8].toNat_lt
      have hx : val (((unpack l).drop n).take k) < 1048576 := by
        have h1 := val_lt (((unpack l).drop n).take k)
        have h2 : (((unpack l).drop n).take k).length ≤ 20 := by rw [List.length_take]; omega
        have h3 : 2 ^ (((unpack l).drop n).take k).length ≤ 2 ^ 20 := Nat.pow_le_pow_right (by omega) h2
        omega
      have HA := Lib.hid (u8_bit l[(n + k) / 8].toNat (7 - (n + k) % 8) hyb)
      have HO := Lib.hid (i64_or_one (val (((unpack l).drop n).take k)) (l[(n + k) / 8].toNat.testBit (7 - (n + k) % 8)) hx)
      have HV := Lib.hid hv
      have HB := Lib.hid hb
      have hc0 := hb.cell 0
      have hc1 := hb.cell 1
      have hf1 := hb.frozen 1
      simp only [List.getElem?_toArray, List.getElem?_cons_zero, List.getElem?_cons_succ] at hc0 hc1
      have hbit : (l[(n + k) / 8].toNat.testBit (7 - (n + k) % 8)).toNat ≤ 1 := by cases l[(n + k) / 8].toNat.testBit (7 - (n + k) % 8) <;> decide
      clear hv hat hcl hb hul
      have hA := HA.out
      generalize l[(n + k) / 8].toNat.testBit (7 - (n + k) % 8) = bt at *
      generalize l[(n + k) / 8].toNat = y at *
      generalize val (((unpack l).drop n).take k) = x at *
      generalize hN : n + k = N at *
      have hO := HO.out
      have hil : (N : Int) / 8 < (l.length : Int) := by omega
      have hi0 : (0 : Int) ≤ (N : Int) / 8 := by omega
      clear HA HO
      go_wp2
      go_quiet (fail)
      go_wp2
      go_roundw
      case rel =>
        refine ⟨k + 1, by omega, by go_num, by rw [HV.out]; go_num, ?_, hbb.trans (((BelowBut.refl _ g wr).drewN _).setCell (.inl rfl) _)⟩
        have h1 := (HB.out.drewN nq).set_ 1 (.int .i64 ((N : Int) + 1))
        have e : ((n + (k + 1) : Nat) : Int) = (N : Int) + 1 := by omega
        rw [e]
        simpa using h1
      case measure => simp [intOf]; omega
    · have hkm : k = many := by omega
      subst hkm
      go_wp2
      go_ret
      exact ⟨rfl, hb, hbb⟩
end Go.Proofs.YtbgnggkgmeagkaaGreatDoor
namespace Go.Proofs.YtbgnggkgmeagkaaGreatDoor
open Go.RowKit

/-- '[]byte(s)'. -/
theorem conv_bytes (W : World) (l : List UInt8) : ∃ c W', (convert 9 23 (.string ⟨l.toArray⟩)).run Tryz.prog W = .ok (.slice (some ⟨W.heap.size, 0, none⟩) l.length c) W' ∧
    l.length ≤ c ∧ Reads W' W'.heap.size 1 (some ⟨W.heap.size, 0, none⟩) l.length (bs l) ∧ Below W.heap.size W W' ∧ W'.heap.size = W.heap.size + 1 := by
  have h := Lib.run_convert_string_bytes (P := Tryz.prog) W 9 23 5 ⟨l.toArray⟩ Tryz.underlying9 Tryz.underlying23 Tryz.underlying5
  have hs : (ByteArray.mk l.toArray).size = l.length := rfl
  rw [hs] at h
  refine ⟨_, _, h, grownCap_ge _ _ _ _, ?_, ?_, Lib.bytesWorld_size _ _ _⟩
  · refine ⟨by simp [bs], fun _ => ⟨_, rfl, by rw [Lib.bytesWorld_size]; exact Nat.lt_succ_self _, fun j u hu => ?_⟩⟩
    have hj : j < l.length := by
      have := (List.getElem?_eq_some_iff.1 hu).1
      simpa [bs] using this
    rw [Addr.add_lit, Nat.zero_add, Lib.bytesWorld_cell _ _ _ _ (by rw [hs]; exact hj), ← hu, bs_at l hj]
    simp [hj]
  · refine ⟨?_, ?_, ?_, by rw [Lib.bytesWorld_size]; omega, fun k hk => Lib.bytesWorld_at_old _ _ _ k hk⟩
    all_goals simp [Lib.bytesWorld, World.freeze, World.alloc, World.drew, -World.alloc_eq, -World.drew_eq]

theorem idx_k (c : UInt8) (z : Int) (h : oidx c = z) (w : World) :
    Calls Tryz.prog 78 #[.string ⟨often.toArray⟩, .int .u8 (c.toNat : Int)] w fun e w' => e = .returned (.int .i64 z) ∧ w = w' := by
  rw [← h]
  exact idx_any c w
theorem own_mono {w : World} {B B' : Nat} {e : TypeId} {size n : Nat} {v : Value} {xs : List Value} (h : w.ownsRow B e size v n xs) (hB : B' ≤ B) : w.ownsRow B' e size v n xs := by
  obtain ⟨h1, h2⟩ := h
  refine ⟨h1, ?_⟩
  rcases h2 with h2 | ⟨g, cap, cur, hv, hg, r⟩
  · exact .inl h2
  · exact .inr ⟨g, cap, cur, hv, by omega, r⟩
theorem i64_or_256 (y : Nat) (h : y < 256) : bits .or .i64 256 (y : Int) = ((256 + y : Nat) : Int) := by
  have := i64_or_low 1 y 8 (by decide) (by omega) (by decide)
  exact this
theorem encBits_take (l : List UInt8) (k : Nat) (h : k < l.length) : encBits (l.take (k + 1)) = encBits (l.take k) ++ cw l[k] := by
  rw [List.take_succ_eq_append_getElem h, encBits_append]
  simp [encBits]

/-- How many bits lack, off the memory. -/
def rowFill (w : World) (g : Nat) : Nat := match w.cell? ⟨g, 1, none⟩ with | some (.int _ q) => fill q.toNat | _ => 0
theorem rowFill_of {w : World} {g n : Nat} (h : w.cell? ⟨g, 1, none⟩ = some (.int .i64 (n : Int))) : rowFill w g = fill n := by
  unfold rowFill
  rw [h]
  rfl

set_option maxRecDepth 100000 in
set_option maxHeartbeats 4000000 in
theorem encode_any (l : List UInt8) (hl : l.length ≤ 68719476736) (w : World) :
    Calls Tryz.prog 146 #[.string ⟨l.toArray⟩] w fun e w' => ∃ v, e = .returned v ∧ w'.ownsRow w.heap.size 5 1 v (enc l).length (bs (enc l)) ∧ Below w.heap.size w w' := by
  obtain ⟨c, W, hk, hcap, hr, hbW, hWs⟩ := conv_bytes (w.alloc (.cells #[.slice none 0 0, .int .i64 0] 298)) l
  have hb0 : Below w.heap.size w W := ((Below.refl _ _).alloc (Nat.le_refl _) _).trans (hbW.mono (by simp))
  have hblk0 : Blk W w.heap.size 298 #[.slice none 0 0, .int .i64 0] := (Blk.new w _ _).below hbW (by simp)
  simp only [World.size_alloc] at hr hWs hk
  have hR0 : IsRow W W.heap.size w.heap.size [] := ⟨_, hblk0, by rw [pack_nil]; exact World.ownsRow_nil _ _ _ _, Nat.le_refl _⟩
  have HB0 := Lib.hid hb0
  have hg : w.heap.size < W.heap.size := by omega
  have hg2 : w.heap.size + 1 < W.heap.size := by omega
  clear hbW hblk0 hb0 hWs
  go_enter Tryz.func146, Tryz.ntmps146
  go_wp2
  clear hk
  go_loopw [10] (fun i wr => ∃ k : Nat, k ≤ l.length ∧ i = .int .i64 k ∧ IsRow wr W.heap.size w.heap.size (encBits (l.take k)) ∧ BelowBut W.heap.size w.heap.size W wr) (fun i _ => l.length - (intOf i).toNat)
  case atStart => exact ⟨0, Nat.zero_le _, rfl, hR0, BelowBut.refl _ _ _⟩
  case round =>
    obtain ⟨k, hk, rfl, hRk, hbb⟩ := hrel
    clear hR0
    by_cases hlt : k < l.length
    · obtain ⟨b, off, hAd, hbB, hcl⟩ := reads_byte hr hlt
      injection hAd with hAd
      injection hAd with h1 h2 _
      subst h1 h2
      have hcl2 : wr.cell? ⟨w.heap.size + 1, k, none⟩ = some (.int .u8 (l[k].toNat : Int)) := by
        rw [hbb.cell (p := ⟨w.heap.size + 1, k, none⟩) hg2 (by show w.heap.size + 1 ≠ w.heap.size; omega)]
        rw [Nat.zero_add] at hcl
        exact hcl
      have HT := Lib.hid (encBits_take l k hlt)
      have hlen : (encBits (l.take k)).length ≤ 1099511627776 := by
        have h1 := encBits_le (l.take k)
        have h2 : (l.take k).length ≤ l.length := List.length_take_le' ..
        omega
      have hcw : cw l[k] = if 0 ≤ oidx l[k] then bitsOf 6 (oidx l[k]).toNat else bitsOf 9 (256 + l[k].toNat) := rfl
      have HCW := Lib.hid hcw
      have hyb : l[k].toNat < 256 := l[k].toNat_lt
      clear hcl hcw
      by_cases h0 : 0 ≤ oidx l[k]
      · obtain ⟨z, hz⟩ := Int.eq_ofNat_of_zero_le h0
        have hz31 := (oidx_bounds l[k]).2
        have hz32 : z < 512 := by omega
        have hcw2 := HCW.out
        rw [if_pos h0, hz, Int.toNat_natCast] at hcw2
        have HZ := Lib.hid hz
        have HC2 := Lib.hid hcw2
        clear HCW hcw2 h0 hz hz31
        go_wp2_with fail
        refine (idx_k l[k] z HZ.out wr).mono ?_
        rintro e w' ⟨rfl, rfl⟩
        go_wp2_with fail
        refine (put_any z 6 w.heap.size W.heap.size _ wr hz32 (by omega) hlen hg hRk).mono ?_
        rintro e w' ⟨rfl, hR', hb'⟩
        go_wp2_with fail
        go_roundw
        case rel => exact ⟨k + 1, by omega, by go_num, by rw [HT.out, HC2.out]; exact hR', hbb.trans hb'⟩
        case measure => simp [intOf]; omega
      · have hm1 : oidx l[k] = -1 := by have := (oidx_bounds l[k]).1; omega
        have hcw2 := HCW.out
        rw [if_neg h0] at hcw2
        have HZ := Lib.hid hm1
        have HC2 := Lib.hid hcw2
        have hor := i64_or_256 l[k].toNat hyb
        clear HCW hcw2 h0 hm1
        have hx9 : 256 + l[k].toNat < 512 := by omega
        go_wp2_with fail
        refine (idx_k l[k] (-1) HZ.out wr).mono ?_
        rintro e w' ⟨rfl, rfl⟩
        go_wp2_with fail
        refine (put_any (256 + l[k].toNat) 9 w.heap.size W.heap.size _ wr hx9 (by omega) hlen hg hRk).mono ?_
        rintro e w' ⟨rfl, hR', hb'⟩
        go_wp2_with fail
        go_roundw
        case rel => exact ⟨k + 1, by omega, by go_num, by rw [HT.out, HC2.out]; exact hR', hbb.trans hb'⟩
        case measure => simp [intOf]; omega
    · have hkl : k = l.length := by omega
      subst hkl
      rw [List.take_length] at hRk
      have hlen : (encBits l).length ≤ 1099511627000 := by
        have h1 := encBits_le l
        omega
      clear hlt hk hr
      go_wp2
      go_loopw [28] (fun _ w2 => ∃ j : Nat, j ≤ fill (encBits l).length ∧ IsRow w2 W.heap.size w.heap.size (encBits l ++ List.replicate j true) ∧ BelowBut W.heap.size w.heap.size W w2) (fun _ w2 => rowFill w2 w.heap.size)
      case atStart => exact ⟨0, Nat.zero_le _, by simpa using hRk, hbb⟩
      case round =>
        obtain ⟨j, hj, hRj, hbj⟩ := hrel
        clear hRk hbb
        have hRj2 := Lib.hid hRj
        obtain ⟨v, hb, hown, hBs⟩ := hRj
        have hN : (encBits l ++ List.replicate j true).length = (encBits l).length + j := by simp
        have hfl : fill (encBits l).length ≤ 7 := by unfold fill; omega
        have hc0 := hb.cell 0
        have hc1 := hb.cell 1
        simp only [List.getElem?_toArray, List.getElem?_cons_zero, List.getElem?_cons_succ] at hc0 hc1
        by_cases h8 : ((encBits l).length + j) % 8 = 0
        · have hjf : j = fill (encBits l).length := by unfold fill at *; omega
          have HE : Hid (enc l = pack (encBits l ++ List.replicate j true)) := by
            show _ = _
            rw [hjf]
            rfl
          rw [hN] at hc1
          have h8' : ((((encBits l).length : Int) + (j : Int)) % 8 == 0) = true := by simp; omega
          have HOW := Lib.hid hown
          clear hown hb h8 hjf hN hRj2
          go_wp2
          go_ret
          exact ⟨_, rfl, by rw [HE.out]; exact own_mono HOW.out (by omega), HB0.out.trans (hbj.below (by omega) (Nat.le_refl _))⟩
        · have hc1' := hc1
          rw [hN] at hc1
          have h8' : ((((encBits l).length : Int) + (j : Int)) % 8 == 0) = false := by simp; omega
          have hjlt : j + 1 ≤ fill (encBits l).length := by
            have : j ≠ fill (encBits l).length := by
              rintro rfl
              apply h8
              unfold fill
              omega
            omega
          have hF1 : rowFill wr w.heap.size = fill ((encBits l).length + j) := rowFill_of (by rw [hc1])
          have HF1 := Lib.hid hF1
          have HN := Lib.hid hN
          have hlen2 : (encBits l ++ List.replicate j true).length ≤ 1099511627776 := by rw [hN]; omega
          clear hown hb hc1' hF1 hN hc0
          go_wp2_with fail
          refine (put_any 1 1 w.heap.size W.heap.size _ wr (by decide) (by decide) hlen2 hg hRj2.out).mono ?_
          rintro e w' ⟨rfl, hR', hb'⟩
          have e1 : encBits l ++ List.replicate j true ++ bitsOf 1 1 = encBits l ++ List.replicate (j + 1) true := by
            rw [List.append_assoc, show bitsOf 1 1 = [true] by decide, ← List.replicate_succ']
          rw [e1] at hR'
          clear e1
          go_wp2_with fail
          go_roundw
          case rel => exact ⟨j + 1, hjlt, hR', hbj.trans hb'⟩
          case measure =>
            obtain ⟨v', hb2, _⟩ := hR'
            have hc2 := hb2.cell 1
            simp only [List.getElem?_toArray, List.getElem?_cons_zero, List.getElem?_cons_succ] at hc2
            rw [HF1.out, rowFill_of hc2]
            simp only [List.length_append, List.length_replicate]
            unfold fill
            omega

end Go.Proofs.YtbgnggkgmeagkaaGreatDoor
