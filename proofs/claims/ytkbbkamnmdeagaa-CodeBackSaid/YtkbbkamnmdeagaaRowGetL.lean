/-
  (*row).get by its contract. Conditions: the bounds that it names.
-/
import Derived.Test.YtkbbkamnmdeagaaRowL
namespace Go.Proofs.Ytkbbkamnmdeagaa
open Go.RowKit

theorem bitsOf_at (m x k : Nat) (h : k < m) : (bitsOf m x)[k]? = some (x.testBit (m - 1 - k)) := by
  induction m generalizing k with
  | zero => omega
  | succ m ih =>
    cases k with
    | zero => simp [bitsOf]
    | succ k =>
      rw [bitsOf, List.getElem?_cons_succ, ih k (by omega)]
      congr 2
      omega
theorem unpack_at (b : List UInt8) : ∀ (m : Nat) (y : UInt8), b[m / 8]? = some y → (unpack b)[m]? = some (y.toNat.testBit (7 - m % 8)) := by
  induction b with
  | nil => intro m y h; simp at h
  | cons c b ih =>
    intro m y h
    have e : unpack (c :: b) = bitsOf 8 c.toNat ++ unpack b := rfl
    rw [e]
    by_cases h8 : m < 8
    · have h0 : m / 8 = 0 := Nat.div_eq_of_lt h8
      rw [h0] at h
      simp at h
      subst h
      rw [List.getElem?_append_left (by rw [bitsOf_length]; exact h8), bitsOf_at 8 _ m h8]
      congr 2
      omega
    · rw [List.getElem?_append_right (by rw [bitsOf_length]; omega), bitsOf_length]
      have e1 : m / 8 = (m - 8) / 8 + 1 := by omega
      rw [e1, List.getElem?_cons_succ] at h
      rw [ih (m - 8) y h]
      congr 2
      omega
theorem u8_bit (y r : Nat) (hy : y < 256) : bits .and .u8 ((y : Int) / 2 ^ r) 1 = ((y.testBit r).toNat : Int) := by
  have e : (y : Int) / 2 ^ r = ((y / 2 ^ r : Nat) : Int) := by simp
  have h1 : y / 2 ^ r ≤ y := Nat.div_le_self ..
  rw [e, Nat.toNat_testBit]
  generalize y / 2 ^ r = z at *
  have h2 : (1 : Int) = ((2 ^ 1 - 1 : Nat) : Int) := by decide
  rw [h2]
  show IntKind.u8.wrap ((BitVec.ofInt 8 (z : Int) &&& BitVec.ofInt 8 ((2 ^ 1 - 1 : Nat) : Int)).toNat : Int) = _
  rw [BitVec.toNat_and, ofInt8 z (by omega), ofInt8 _ (by decide), Nat.and_two_pow_sub_one_eq_mod, IntKind.wrap_u8]
  omega
theorem i64_or_one (x : Nat) (b : Bool) (hx : x < 1048576) : bits .or .i64 ((x : Int) * 2) (b.toNat : Int) = ((2 * x + b.toNat : Nat) : Int) := by
  have hb : b.toNat < 2 := by cases b <;> decide
  have h := i64_or_low x b.toNat 1 (by omega) (by simpa using hb) (by omega)
  have e : ((x * 2 ^ 1 : Nat) : Int) = (x : Int) * 2 := by simp
  rw [e] at h
  rw [h]
  congr 1
  omega

set_option maxRecDepth 100000 in
set_option maxHeartbeats 2000000 in
theorem get_any (many g n c : Nat) (A : Option Addr) (l : List UInt8) (w : World) (hm : many ≤ 9) (hl : l.length ≤ 160000000000000) (hn : n + many ≤ 8 * l.length)
    (hB : Blk w g 61 #[.slice A l.length c, .int .i64 (n : Int)]) (B : Nat) (hr : Reads w B 1 A l.length (bs l)) (hgB : ∀ ad, A = some ad → ad.block ≠ g) :
    Calls Try.prog 25 #[.pointer (some ⟨g, 0, none⟩), .int .i64 many] w fun e w' => e = .returned (.int .i64 (val (((unpack l).drop n).take many) : Nat)) ∧ Blk w' g 61 #[.slice A l.length c, .int .i64 ((n + many : Nat) : Int)] ∧ BelowBut w.heap.size g w w' := by
  have hul := unpack_length l
  go_enter Try.func25, Try.ntmps25
  go_wp2
  go_loopw [5, 7] (fun x i wr => ∃ k : Nat, k ≤ many ∧ i = .int .i64 k ∧ x = .int .i64 (val (((unpack l).drop n).take k) : Nat) ∧ Blk wr g 61 #[.slice A l.length c, .int .i64 ((n + k : Nat) : Int)] ∧ BelowBut w.heap.size g w wr) (fun _ i _ => many - (intOf i).toNat)
  case atStart => exact ⟨0, Nat.zero_le _, rfl, rfl, hB, BelowBut.refl _ _ _⟩
  case round =>
    obtain ⟨k, hk, rfl, rfl, hb, hbb⟩ := hrel
    clear hB
    by_cases hlt : k < many
    · have hi : (n + k) / 8 < l.length := by omega
      obtain ⟨b, off, rfl, hbB, hcl⟩ := reads_byte hr hi
      have hcl2 : wr.cell? ⟨b, off + (n + k) / 8, none⟩ = some (.int .u8 (l[(n + k) / 8].toNat : Int)) := by
        rw [hbb.cell (p := ⟨b, off + (n + k) / 8, none⟩) (World.block_lt_of_cell? w _ hcl) (hgB ⟨b, off, none⟩ rfl)]
        exact hcl
      have hat := unpack_at l (n + k) l[(n + k) / 8] (List.getElem?_eq_getElem hi)
      have hv : val (((unpack l).drop n).take (k + 1)) = 2 * val (((unpack l).drop n).take k) + (l[(n + k) / 8].toNat.testBit (7 - (n + k) % 8)).toNat := by
        rw [List.take_add_one, List.getElem?_drop, hat]
        exact val_snoc _ _
      have hyb : l[(n + k) / 8].toNat < 256 := l[(n + k) / 8].toNat_lt
      have hx : val (((unpack l).drop n).take k) < 1048576 := by
        have h1 := val_lt (((unpack l).drop n).take k)
        have h2 : (((unpack l).drop n).take k).length ≤ 20 := by rw [List.length_take]; omega
        have h3 : 2 ^ (((unpack l).drop n).take k).length ≤ 2 ^ 20 := Nat.pow_le_pow_right (by omega) h2
        omega
      have HA := Lib.hid (u8_bit l[(n + k) / 8].toNat (7 - (n + k) % 8) hyb)
      have HO := Lib.hid (i64_or_one (val (((unpack l).drop n).take k)) (l[(n + k) / 8].toNat.testBit (7 - (n + k) % 8)) hx)
      have HV := Lib.hid hv
      have HB := Lib.hid hb
      have hc0 := hb.cell 0
      have hc1 := hb.cell 1
      have hf1 := hb.frozen 1
      simp only [List.getElem?_toArray, List.getElem?_cons_zero, List.getElem?_cons_succ] at hc0 hc1
      have hbit : (l[(n + k) / 8].toNat.testBit (7 - (n + k) % 8)).toNat ≤ 1 := by cases l[(n + k) / 8].toNat.testBit (7 - (n + k) % 8) <;> decide
      clear hv hat hcl hb hul
      have hA := HA.out
      generalize l[(n + k) / 8].toNat.testBit (7 - (n + k) % 8) = bt at *
      generalize l[(n + k) / 8].toNat = y at *
      generalize val (((unpack l).drop n).take k) = x at *
      generalize hN : n + k = N at *
      have hO := HO.out
      have hil : (N : Int) / 8 < (l.length : Int) := by omega
      have hi0 : (0 : Int) ≤ (N : Int) / 8 := by omega
      clear HA HO
      go_wp2
      go_quiet (fail)
      go_wp2
      go_roundw
      case rel =>
        refine ⟨k + 1, by omega, by go_num, by rw [HV.out]; go_num, ?_, hbb.trans (((BelowBut.refl _ g wr).drewN _).setCell (.inl rfl) _)⟩
        have h1 := (HB.out.drewN nq).set_ 1 (.int .i64 ((N : Int) + 1))
        have e : ((n + (k + 1) : Nat) : Int) = (N : Int) + 1 := by omega
        rw [e]
        simpa using h1
      case measure => simp [intOf]; omega
    · have hkm : k = many := by omega
      subst hkm
      go_wp2
      go_ret
      exact ⟨rfl, hb, hbb⟩
end Go.Proofs.Ytkbbkamnmdeagaa
