/-
  line's reader: until, where the text stands. Condition: the bound on the bytes.
  line's reader: need, where it is so; value, where a plain text and a line's end stand. Condition: the bound on the bytes.
  line's reader, told by what stands ahead of it: match, until, value. Condition: the bound on the bytes.
  What line.Ask writes, as bytes; the numeral that is read back. Plain laws, nothing of the program's code.
-/
import Derived.Test.YtbgnggkgmeagkaaGreatDoorMTopLines19
import Derived.Test.YtbgnggkgmeagkaaGreatDoorMTopLines03
import Derived.Lib.ItoaNum
set_option linter.unusedSimpArgs false
set_option linter.unusedVariables false
namespace Go.Proofs.YtbgnggkgmeagkaaGreatDoor
open Go.RowKit

theorem indexOne (x y : UInt8) : Lib.indexByte [x] y = if x = y then 0 else -1 := by
  unfold Lib.indexByte Lib.indexByte
  by_cases h : x = y
  · subst h; simp
  · rw [if_neg h, if_neg (by simpa using h)]; rfl
set_option maxRecDepth 100000 in
set_option maxHeartbeats 4000000 in
theorem runtil_token {w : World} {R : Nat} {A : Option Addr} {l : List UInt8} {c at_ : Nat} (h : RdAt w R A l c at_) (x : UInt8) (s : List UInt8) (hs : ∀ k (h : k < s.length), l[at_ + k]? = some s[k]) (hx : l[at_ + s.length]? = some x) (hm : ∀ y ∈ s, (tokL.contains) y = true ∧ x ≠ y) (hl4 : s.length ≤ 400) :
    Calls Tryz.prog 29 #[.pointer (some ⟨R, 0, none⟩), .string ⟨#[x]⟩, fnV 30, .int .i64 400] w fun e w' => e = .returned (.string ⟨s.toArray⟩) ∧ RdAt w' R A l c (at_ + s.length) ∧ BelowBut w.heap.size R w w' := by
  have c0 := h.blk.cell 0
  have c1 := h.blk.cell 1
  have c2 := h.blk.cell 2
  have f1 := h.blk.frozen 1
  have hl := h.blk.lt
  have hsm := h.sm
  have HS := Lib.hid hs
  have HX := Lib.hid hx
  have HM := Lib.hid hm
  have H := Lib.hid h
  have hxl : at_ + s.length < l.length := (List.getElem?_eq_some_iff.1 hx).1
  clear hs hx hm h
  go_enter Tryz.func29, Tryz.ntmps29
  go_wp2_with fail
  go_loopg [9] s.length (fun m i wr => ∃ k : Nat, m + k = s.length ∧ i = .int .i64 ((at_ + k : Nat) : Int) ∧ wr = w)
  case atStart => exact ⟨0, rfl, rfl, rfl⟩
  case round =>
    obtain ⟨k, hk, rfl, rfl⟩ := hrel
    obtain ⟨q, hq⟩ : ∃ q, at_ + k = q := ⟨_, rfl⟩
    have HQ := Lib.hid hq
    have hql : q < l.length := by omega
    have hqi : ((q : Nat) : Int) < ((l.length : Nat) : Int) := by omega
    rw [hq]
    obtain ⟨b, off, hA, hbB, hcl⟩ := reads_byte H.out.rd hql
    have hbw := Nat.lt_trans hbB hl
    subst hA
    by_cases hlt : k < s.length
    · have hy0 : l[q] = s[k] := by
        have h := HS.out k hlt
        rw [hq, List.getElem?_eq_getElem hql] at h
        exact Option.some.inj h
      obtain ⟨y, hy⟩ : ∃ y, s[k] = y := ⟨_, rfl⟩
      obtain ⟨hm1, hm2⟩ := HM.out s[k] (List.getElem_mem hlt)
      rw [hy0, hy] at hcl
      rw [hy] at hm1 hm2
      have hi : Lib.indexByte [x] y = -1 := by rw [indexOne, if_neg hm2]
      have HI := Lib.hid (show ∀ w1, Calls Tryz.prog 78 #[.string ⟨#[x]⟩, .int .u8 ((y.toNat : Nat) : Int)] w1 fun e w' => e = .returned (.int .i64 (-1)) ∧ w1 = w' from fun w1 => by rw [← hi]; exact indexB_any [x] y w1)
      have HY := Lib.hid (show ∀ w1, Calls Tryz.prog 30 #[.int .u8 ((y.toNat : Nat) : Int)] w1 fun e w' => e = .returned (.bool true) ∧ w1 = w' from fun w1 => by rw [← hm1]; exact token1_any y w1)
      have hw1 : wrap64 (((q : Nat) : Int) - ((at_ : Nat) : Int)) = ((k : Nat) : Int) := by unfold wrap64; omega
      have hw2 : ((q : Nat) : Int) - ((at_ : Nat) : Int) = ((k : Nat) : Int) := by omega
      have hk4 : ¬ (400 : Int) ≤ ((k : Nat) : Int) := by omega
      have hk5 := decide_eq_false hk4
      clear hy0 hy hm1 hm2 hi hq
      go_wp2_with fail
      refine (HI.out _).mono ?_
      rintro e w1 ⟨rfl, rfl⟩
      go_wp2_with fail
      refine (HY.out _).mono ?_
      rintro e w1 ⟨rfl, rfl⟩
      go_wp2_with fail
      go_roundg (gk - 1)
      case measure => omega
      case rel => exact ⟨k + 1, by omega, by rw [← HQ.out]; go_num, rfl⟩
    · have hkl : k = s.length := by omega
      subst hkl
      have hy0 : l[q] = x := by
        have h := HX.out
        rw [hq, List.getElem?_eq_getElem hql] at h
        exact Option.some.inj h
      rw [hy0] at hcl
      have hi : Lib.indexByte [x] x = 0 := by rw [indexOne, if_pos rfl]
      have HI := Lib.hid (show ∀ w1, Calls Tryz.prog 78 #[.string ⟨#[x]⟩, .int .u8 ((x.toNat : Nat) : Int)] w1 fun e w' => e = .returned (.int .i64 0) ∧ w1 = w' from fun w1 => by rw [← hi]; exact indexB_any [x] x w1)
      have hsl : s = (l.drop at_).take s.length := by
        apply List.ext_getElem?
        intro j
        by_cases hj : j < s.length
        · rw [List.getElem?_take, if_pos hj, List.getElem?_drop, HS.out j hj, List.getElem?_eq_getElem hj]
        · rw [List.getElem?_eq_none (by omega), List.getElem?_eq_none (by rw [List.length_take, List.length_drop]; omega)]
      clear hy0 hi hq
      go_wp2_with fail
      refine (HI.out _).mono ?_
      rintro e w1 ⟨rfl, rfl⟩
      have hcap := H.out.cap
      have hk0 := reads_mid (at_ := at_) (n := s.length) (c := c) H.out.rd (by omega) H.out.cap
      rw [if_neg (by omega), ← hsl] at hk0
      have k1 := run_str hk0.drew (c - at_)
      have hca : ¬ c = at_ := by omega
      have hle1 : at_ ≤ q := by have := HQ.out; omega
      have hle2 : q ≤ c := by omega
      have hle3 : ((at_ : Nat) : Int) ≤ ((q : Nat) : Int) := by omega
      have hle4 : ((q : Nat) : Int) ≤ ((c : Nat) : Int) := by omega
      have hqa : q - at_ = s.length := by have := HQ.out; omega
      clear hsl hk0
      go_wp2_with fail
      go_region
      go_wp2
      go_ret
      have h9 := (H.out.blk.set_ 1 (.int .i64 ((q : Nat) : Int))).drew
      refine ⟨rfl, ⟨?_, ?_, ?_, H.out.cap, H.out.sm⟩, ?_⟩
      · rw [HQ.out]
        simpa using h9
      · exact (H.out.rd.setCell (p := ⟨R, 1, none⟩) (Nat.le_refl _) _).drew
      · rw [HQ.out]
        exact Nat.le_of_lt hql
      · exact ((BelowBut.refl wr.heap.size R wr).setCell (p := ⟨R, 1, none⟩) (.inl rfl) _).drew
set_option maxRecDepth 100000 in
set_option maxHeartbeats 4000000 in
theorem runtil_visible {w : World} {R : Nat} {A : Option Addr} {l : List UInt8} {c at_ : Nat} (h : RdAt w R A l c at_) (x : UInt8) (s : List UInt8) (hs : ∀ k (h : k < s.length), l[at_ + k]? = some s[k]) (hx : l[at_ + s.length]? = some x) (hm : ∀ y ∈ s, (visB) y = true ∧ x ≠ y) (hl4 : s.length ≤ 400) :
    Calls Tryz.prog 29 #[.pointer (some ⟨R, 0, none⟩), .string ⟨#[x]⟩, fnV 33, .int .i64 400] w fun e w' => e = .returned (.string ⟨s.toArray⟩) ∧ RdAt w' R A l c (at_ + s.length) ∧ BelowBut w.heap.size R w w' := by
  have c0 := h.blk.cell 0
  have c1 := h.blk.cell 1
  have c2 := h.blk.cell 2
  have f1 := h.blk.frozen 1
  have hl := h.blk.lt
  have hsm := h.sm
  have HS := Lib.hid hs
  have HX := Lib.hid hx
  have HM := Lib.hid hm
  have H := Lib.hid h
  have hxl : at_ + s.length < l.length := (List.getElem?_eq_some_iff.1 hx).1
  clear hs hx hm h
  go_enter Tryz.func29, Tryz.ntmps29
  go_wp2_with fail
  go_loopg [9] s.length (fun m i wr => ∃ k : Nat, m + k = s.length ∧ i = .int .i64 ((at_ + k : Nat) : Int) ∧ wr = w)
  case atStart => exact ⟨0, rfl, rfl, rfl⟩
  case round =>
    obtain ⟨k, hk, rfl, rfl⟩ := hrel
    obtain ⟨q, hq⟩ : ∃ q, at_ + k = q := ⟨_, rfl⟩
    have HQ := Lib.hid hq
    have hql : q < l.length := by omega
    have hqi : ((q : Nat) : Int) < ((l.length : Nat) : Int) := by omega
    rw [hq]
    obtain ⟨b, off, hA, hbB, hcl⟩ := reads_byte H.out.rd hql
    have hbw := Nat.lt_trans hbB hl
    subst hA
    by_cases hlt : k < s.length
    · have hy0 : l[q] = s[k] := by
        have h := HS.out k hlt
        rw [hq, List.getElem?_eq_getElem hql] at h
        exact Option.some.inj h
      obtain ⟨y, hy⟩ : ∃ y, s[k] = y := ⟨_, rfl⟩
      obtain ⟨hm1, hm2⟩ := HM.out s[k] (List.getElem_mem hlt)
      rw [hy0, hy] at hcl
      rw [hy] at hm1 hm2
      have hi : Lib.indexByte [x] y = -1 := by rw [indexOne, if_neg hm2]
      have HI := Lib.hid (show ∀ w1, Calls Tryz.prog 78 #[.string ⟨#[x]⟩, .int .u8 ((y.toNat : Nat) : Int)] w1 fun e w' => e = .returned (.int .i64 (-1)) ∧ w1 = w' from fun w1 => by rw [← hi]; exact indexB_any [x] y w1)
      have HY := Lib.hid (show ∀ w1, Calls Tryz.prog 33 #[.int .u8 ((y.toNat : Nat) : Int)] w1 fun e w' => e = .returned (.bool true) ∧ w1 = w' from fun w1 => by rw [← hm1]; exact visible1_any y w1)
      have hw1 : wrap64 (((q : Nat) : Int) - ((at_ : Nat) : Int)) = ((k : Nat) : Int) := by unfold wrap64; omega
      have hw2 : ((q : Nat) : Int) - ((at_ : Nat) : Int) = ((k : Nat) : Int) := by omega
      have hk4 : ¬ (400 : Int) ≤ ((k : Nat) : Int) := by omega
      have hk5 := decide_eq_false hk4
      clear hy0 hy hm1 hm2 hi hq
      go_wp2_with fail
      refine (HI.out _).mono ?_
      rintro e w1 ⟨rfl, rfl⟩
      go_wp2_with fail
      refine (HY.out _).mono ?_
      rintro e w1 ⟨rfl, rfl⟩
      go_wp2_with fail
      go_roundg (gk - 1)
      case measure => omega
      case rel => exact ⟨k + 1, by omega, by rw [← HQ.out]; go_num, rfl⟩
    · have hkl : k = s.length := by omega
      subst hkl
      have hy0 : l[q] = x := by
        have h := HX.out
        rw [hq, List.getElem?_eq_getElem hql] at h
        exact Option.some.inj h
      rw [hy0] at hcl
      have hi : Lib.indexByte [x] x = 0 := by rw [indexOne, if_pos rfl]
      have HI := Lib.hid (show ∀ w1, Calls Tryz.prog 78 #[.string ⟨#[x]⟩, .int .u8 ((x.toNat : Nat) : Int)] w1 fun e w' => e = .returned (.int .i64 0) ∧ w1 = w' from fun w1 => by rw [← hi]; exact indexB_any [x] x w1)
      have hsl : s = (l.drop at_).take s.length := by
        apply List.ext_getElem?
        intro j
        by_cases hj : j < s.length
        · rw [List.getElem?_take, if_pos hj, List.getElem?_drop, HS.out j hj, List.getElem?_eq_getElem hj]
        · rw [List.getElem?_eq_none (by omega), List.getElem?_eq_none (by rw [List.length_take, List.length_drop]; omega)]
      clear hy0 hi hq
      go_wp2_with fail
      refine (HI.out _).mono ?_
      rintro e w1 ⟨rfl, rfl⟩
      have hcap := H.out.cap
      have hk0 := reads_mid (at_ := at_) (n := s.length) (c := c) H.out.rd (by omega) H.out.cap
      rw [if_neg (by omega), ← hsl] at hk0
      have k1 := run_str hk0.drew (c - at_)
      have hca : ¬ c = at_ := by omega
      have hle1 : at_ ≤ q := by have := HQ.out; omega
      have hle2 : q ≤ c := by omega
      have hle3 : ((at_ : Nat) : Int) ≤ ((q : Nat) : Int) := by omega
      have hle4 : ((q : Nat) : Int) ≤ ((c : Nat) : Int) := by omega
      have hqa : q - at_ = s.length := by have := HQ.out; omega
      clear hsl hk0
      go_wp2_with fail
      go_region
      go_wp2
      go_ret
      have h9 := (H.out.blk.set_ 1 (.int .i64 ((q : Nat) : Int))).drew
      refine ⟨rfl, ⟨?_, ?_, ?_, H.out.cap, H.out.sm⟩, ?_⟩
      · rw [HQ.out]
        simpa using h9
      · exact (H.out.rd.setCell (p := ⟨R, 1, none⟩) (Nat.le_refl _) _).drew
      · rw [HQ.out]
        exact Nat.le_of_lt hql
      · exact ((BelowBut.refl wr.heap.size R wr).setCell (p := ⟨R, 1, none⟩) (.inl rfl) _).drew
set_option maxRecDepth 100000 in
set_option maxHeartbeats 4000000 in
theorem runtil_letter {w : World} {R : Nat} {A : Option Addr} {l : List UInt8} {c at_ : Nat} (h : RdAt w R A l c at_) (x : UInt8) (s : List UInt8) (hs : ∀ k (h : k < s.length), l[at_ + k]? = some s[k]) (hx : l[at_ + s.length]? = some x) (hm : ∀ y ∈ s, (smallL.contains) y = true ∧ x ≠ y) (hl4 : s.length ≤ 400) :
    Calls Tryz.prog 29 #[.pointer (some ⟨R, 0, none⟩), .string ⟨#[x]⟩, fnV 81, .int .i64 400] w fun e w' => e = .returned (.string ⟨s.toArray⟩) ∧ RdAt w' R A l c (at_ + s.length) ∧ BelowBut w.heap.size R w w' := by
  have c0 := h.blk.cell 0
  have c1 := h.blk.cell 1
  have c2 := h.blk.cell 2
  have f1 := h.blk.frozen 1
  have hl := h.blk.lt
  have hsm := h.sm
  have HS := Lib.hid hs
  have HX := Lib.hid hx
  have HM := Lib.hid hm
  have H := Lib.hid h
  have hxl : at_ + s.length < l.length := (List.getElem?_eq_some_iff.1 hx).1
  clear hs hx hm h
  go_enter Tryz.func29, Tryz.ntmps29
  go_wp2_with fail
  go_loopg [9] s.length (fun m i wr => ∃ k : Nat, m + k = s.length ∧ i = .int .i64 ((at_ + k : Nat) : Int) ∧ wr = w)
  case atStart => exact ⟨0, rfl, rfl, rfl⟩
  case round =>
    obtain ⟨k, hk, rfl, rfl⟩ := hrel
    obtain ⟨q, hq⟩ : ∃ q, at_ + k = q := ⟨_, rfl⟩
    have HQ := Lib.hid hq
    have hql : q < l.length := by omega
    have hqi : ((q : Nat) : Int) < ((l.length : Nat) : Int) := by omega
    rw [hq]
    obtain ⟨b, off, hA, hbB, hcl⟩ := reads_byte H.out.rd hql
    have hbw := Nat.lt_trans hbB hl
    subst hA
    by_cases hlt : k < s.length
    · have hy0 : l[q] = s[k] := by
        have h := HS.out k hlt
        rw [hq, List.getElem?_eq_getElem hql] at h
        exact Option.some.inj h
      obtain ⟨y, hy⟩ : ∃ y, s[k] = y := ⟨_, rfl⟩
      obtain ⟨hm1, hm2⟩ := HM.out s[k] (List.getElem_mem hlt)
      rw [hy0, hy] at hcl
      rw [hy] at hm1 hm2
      have hi : Lib.indexByte [x] y = -1 := by rw [indexOne, if_neg hm2]
      have HI := Lib.hid (show ∀ w1, Calls Tryz.prog 78 #[.string ⟨#[x]⟩, .int .u8 ((y.toNat : Nat) : Int)] w1 fun e w' => e = .returned (.int .i64 (-1)) ∧ w1 = w' from fun w1 => by rw [← hi]; exact indexB_any [x] y w1)
      have HY := Lib.hid (show ∀ w1, Calls Tryz.prog 81 #[.int .u8 ((y.toNat : Nat) : Int)] w1 fun e w' => e = .returned (.bool true) ∧ w1 = w' from fun w1 => by rw [← hm1]; exact letter1_any y w1)
      have hw1 : wrap64 (((q : Nat) : Int) - ((at_ : Nat) : Int)) = ((k : Nat) : Int) := by unfold wrap64; omega
      have hw2 : ((q : Nat) : Int) - ((at_ : Nat) : Int) = ((k : Nat) : Int) := by omega
      have hk4 : ¬ (400 : Int) ≤ ((k : Nat) : Int) := by omega
      have hk5 := decide_eq_false hk4
      clear hy0 hy hm1 hm2 hi hq
      go_wp2_with fail
      refine (HI.out _).mono ?_
      rintro e w1 ⟨rfl, rfl⟩
      go_wp2_with fail
      refine (HY.out _).mono ?_
      rintro e w1 ⟨rfl, rfl⟩
      go_wp2_with fail
      go_roundg (gk - 1)
      case measure => omega
      case rel => exact ⟨k + 1, by omega, by rw [← HQ.out]; go_num, rfl⟩
    · have hkl : k = s.length := by omega
      subst hkl
      have hy0 : l[q] = x := by
        have h := HX.out
        rw [hq, List.getElem?_eq_getElem hql] at h
        exact Option.some.inj h
      rw [hy0] at hcl
      have hi : Lib.indexByte [x] x = 0 := by rw [indexOne, if_pos rfl]
      have HI := Lib.hid (show ∀ w1, Calls Tryz.prog 78 #[.string ⟨#[x]⟩, .int .u8 ((x.toNat : Nat) : Int)] w1 fun e w' => e = .returned (.int .i64 0) ∧ w1 = w' from fun w1 => by rw [← hi]; exact indexB_any [x] x w1)
      have hsl : s = (l.drop at_).take s.length := by
        apply List.ext_getElem?
        intro j
        by_cases hj : j < s.length
        · rw [List.getElem?_take, if_pos hj, List.getElem?_drop, HS.out j hj, List.getElem?_eq_getElem hj]
        · rw [List.getElem?_eq_none (by omega), List.getElem?_eq_none (by rw [List.length_take, List.length_drop]; omega)]
      clear hy0 hi hq
      go_wp2_with fail
      refine (HI.out _).mono ?_
      rintro e w1 ⟨rfl, rfl⟩
      have hcap := H.out.cap
      have hk0 := reads_mid (at_ := at_) (n := s.length) (c := c) H.out.rd (by omega) H.out.cap
      rw [if_neg (by omega), ← hsl] at hk0
      have k1 := run_str hk0.drew (c - at_)
      have hca : ¬ c = at_ := by omega
      have hle1 : at_ ≤ q := by have := HQ.out; omega
      have hle2 : q ≤ c := by omega
      have hle3 : ((at_ : Nat) : Int) ≤ ((q : Nat) : Int) := by omega
      have hle4 : ((q : Nat) : Int) ≤ ((c : Nat) : Int) := by omega
      have hqa : q - at_ = s.length := by have := HQ.out; omega
      clear hsl hk0
      go_wp2_with fail
      go_region
      go_wp2
      go_ret
      have h9 := (H.out.blk.set_ 1 (.int .i64 ((q : Nat) : Int))).drew
      refine ⟨rfl, ⟨?_, ?_, ?_, H.out.cap, H.out.sm⟩, ?_⟩
      · rw [HQ.out]
        simpa using h9
      · exact (H.out.rd.setCell (p := ⟨R, 1, none⟩) (Nat.le_refl _) _).drew
      · rw [HQ.out]
        exact Nat.le_of_lt hql
      · exact ((BelowBut.refl wr.heap.size R wr).setCell (p := ⟨R, 1, none⟩) (.inl rfl) _).drew
set_option maxRecDepth 100000 in
set_option maxHeartbeats 4000000 in
theorem runtil_plain {w : World} {R : Nat} {A : Option Addr} {l : List UInt8} {c at_ : Nat} (h : RdAt w R A l c at_) (x : UInt8) (s : List UInt8) (hs : ∀ k (h : k < s.length), l[at_ + k]? = some s[k]) (hx : l[at_ + s.length]? = some x) (hm : ∀ y ∈ s, (seen) y = true ∧ x ≠ y) (hl4 : s.length ≤ 400) :
    Calls Tryz.prog 29 #[.pointer (some ⟨R, 0, none⟩), .string ⟨#[x]⟩, fnV 80, .int .i64 400] w fun e w' => e = .returned (.string ⟨s.toArray⟩) ∧ RdAt w' R A l c (at_ + s.length) ∧ BelowBut w.heap.size R w w' := by
  have c0 := h.blk.cell 0
  have c1 := h.blk.cell 1
  have c2 := h.blk.cell 2
  have f1 := h.blk.frozen 1
  have hl := h.blk.lt
  have hsm := h.sm
  have HS := Lib.hid hs
  have HX := Lib.hid hx
  have HM := Lib.hid hm
  have H := Lib.hid h
  have hxl : at_ + s.length < l.length := (List.getElem?_eq_some_iff.1 hx).1
  clear hs hx hm h
  go_enter Tryz.func29, Tryz.ntmps29
  go_wp2_with fail
  go_loopg [9] s.length (fun m i wr => ∃ k : Nat, m + k = s.length ∧ i = .int .i64 ((at_ + k : Nat) : Int) ∧ wr = w)
  case atStart => exact ⟨0, rfl, rfl, rfl⟩
  case round =>
    obtain ⟨k, hk, rfl, rfl⟩ := hrel
    obtain ⟨q, hq⟩ : ∃ q, at_ + k = q := ⟨_, rfl⟩
    have HQ := Lib.hid hq
    have hql : q < l.length := by omega
    have hqi : ((q : Nat) : Int) < ((l.length : Nat) : Int) := by omega
    rw [hq]
    obtain ⟨b, off, hA, hbB, hcl⟩ := reads_byte H.out.rd hql
    have hbw := Nat.lt_trans hbB hl
    subst hA
    by_cases hlt : k < s.length
    · have hy0 : l[q] = s[k] := by
        have h := HS.out k hlt
        rw [hq, List.getElem?_eq_getElem hql] at h
        exact Option.some.inj h
      obtain ⟨y, hy⟩ : ∃ y, s[k] = y := ⟨_, rfl⟩
      obtain ⟨hm1, hm2⟩ := HM.out s[k] (List.getElem_mem hlt)
      rw [hy0, hy] at hcl
      rw [hy] at hm1 hm2
      have hi : Lib.indexByte [x] y = -1 := by rw [indexOne, if_neg hm2]
      have HI := Lib.hid (show ∀ w1, Calls Tryz.prog 78 #[.string ⟨#[x]⟩, .int .u8 ((y.toNat : Nat) : Int)] w1 fun e w' => e = .returned (.int .i64 (-1)) ∧ w1 = w' from fun w1 => by rw [← hi]; exact indexB_any [x] y w1)
      have HY := Lib.hid (show ∀ w1, Calls Tryz.prog 80 #[.int .u8 ((y.toNat : Nat) : Int)] w1 fun e w' => e = .returned (.bool true) ∧ w1 = w' from fun w1 => by rw [← hm1]; exact plainb_any y w1)
      have hw1 : wrap64 (((q : Nat) : Int) - ((at_ : Nat) : Int)) = ((k : Nat) : Int) := by unfold wrap64; omega
      have hw2 : ((q : Nat) : Int) - ((at_ : Nat) : Int) = ((k : Nat) : Int) := by omega
      have hk4 : ¬ (400 : Int) ≤ ((k : Nat) : Int) := by omega
      have hk5 := decide_eq_false hk4
      clear hy0 hy hm1 hm2 hi hq
      go_wp2_with fail
      refine (HI.out _).mono ?_
      rintro e w1 ⟨rfl, rfl⟩
      go_wp2_with fail
      refine (HY.out _).mono ?_
      rintro e w1 ⟨rfl, rfl⟩
      go_wp2_with fail
      go_roundg (gk - 1)
      case measure => omega
      case rel => exact ⟨k + 1, by omega, by rw [← HQ.out]; go_num, rfl⟩
    · have hkl : k = s.length := by omega
      subst hkl
      have hy0 : l[q] = x := by
        have h := HX.out
        rw [hq, List.getElem?_eq_getElem hql] at h
        exact Option.some.inj h
      rw [hy0] at hcl
      have hi : Lib.indexByte [x] x = 0 := by rw [indexOne, if_pos rfl]
      have HI := Lib.hid (show ∀ w1, Calls Tryz.prog 78 #[.string ⟨#[x]⟩, .int .u8 ((x.toNat : Nat) : Int)] w1 fun e w' => e = .returned (.int .i64 0) ∧ w1 = w' from fun w1 => by rw [← hi]; exact indexB_any [x] x w1)
      have hsl : s = (l.drop at_).take s.length := by
        apply List.ext_getElem?
        intro j
        by_cases hj : j < s.length
        · rw [List.getElem?_take, if_pos hj, List.getElem?_drop, HS.out j hj, List.getElem?_eq_getElem hj]
        · rw [List.getElem?_eq_none (by omega), List.getElem?_eq_none (by rw [List.length_take, List.length_drop]; omega)]
      clear hy0 hi hq
      go_wp2_with fail
      refine (HI.out _).mono ?_
      rintro e w1 ⟨rfl, rfl⟩
      have hcap := H.out.cap
      have hk0 := reads_mid (at_ := at_) (n := s.length) (c := c) H.out.rd (by omega) H.out.cap
      rw [if_neg (by omega), ← hsl] at hk0
      have k1 := run_str hk0.drew (c - at_)
      have hca : ¬ c = at_ := by omega
      have hle1 : at_ ≤ q := by have := HQ.out; omega
      have hle2 : q ≤ c := by omega
      have hle3 : ((at_ : Nat) : Int) ≤ ((q : Nat) : Int) := by omega
      have hle4 : ((q : Nat) : Int) ≤ ((c : Nat) : Int) := by omega
      have hqa : q - at_ = s.length := by have := HQ.out; omega
      clear hsl hk0
      go_wp2_with fail
      go_region
      go_wp2
      go_ret
      have h9 := (H.out.blk.set_ 1 (.int .i64 ((q : Nat) : Int))).drew
      refine ⟨rfl, ⟨?_, ?_, ?_, H.out.cap, H.out.sm⟩, ?_⟩
      · rw [HQ.out]
        simpa using h9
      · exact (H.out.rd.setCell (p := ⟨R, 1, none⟩) (Nat.le_refl _) _).drew
      · rw [HQ.out]
        exact Nat.le_of_lt hql
      · exact ((BelowBut.refl wr.heap.size R wr).setCell (p := ⟨R, 1, none⟩) (.inl rfl) _).drew
end Go.Proofs.YtbgnggkgmeagkaaGreatDoor
namespace Go.Proofs.YtbgnggkgmeagkaaGreatDoor
open Go.RowKit

set_option maxRecDepth 100000 in
set_option maxHeartbeats 1000000 in
theorem rneed_ok {w : World} {R : Nat} {A : Option Addr} {l : List UInt8} {c at_ : Nat} (h : RdAt w R A l c at_) :
    Calls Tryz.prog 31 #[.pointer (some ⟨R, 0, none⟩), .bool true] w fun e w' => e = .returned (.tuple #[]) ∧ w = w' := by
  have c2 := h.blk.cell 2
  have hl := h.blk.lt
  clear h
  go_enter Tryz.func31, Tryz.ntmps31
  go_wp2
  go_end0
  exact ⟨rfl, rfl⟩

theorem BelowBut.next2 {w w1 w2 : World} {R : Nat} (h : BelowBut w.heap.size R w w1) (k : BelowBut w1.heap.size R w1 w2) : BelowBut w.heap.size R w w2 :=
  h.trans ⟨k.os, k.tape, k.output, k.size, fun i hi hg => k.block i (Nat.lt_of_lt_of_le hi h.size) hg⟩
theorem RdAt.next {w w1 : World} {R : Nat} {A : Option Addr} {l : List UInt8} {c at_ : Nat} (h : RdAt w R A l c at_) (hb : Below w.heap.size w w1) : RdAt w1 R A l c at_ :=
  ⟨h.blk.below hb h.blk.lt, h.rd.below (hb.mono (Nat.le_of_lt h.blk.lt)), h.le, h.cap, h.sm⟩
set_option maxRecDepth 100000 in
set_option maxHeartbeats 4000000 in
theorem rvalue_ok {w : World} {R : Nat} {A : Option Addr} {l : List UInt8} {c at_ : Nat} (h : RdAt w R A l c at_) (s : List UInt8) (hs : ∀ k (h : k < ([58, 32] ++ s ++ [13, 10] : List UInt8).length), l[at_ + k]? = some ([58, 32] ++ s ++ [13, 10] : List UInt8)[k]) (hat : at_ + (s.length + 4) ≤ l.length) (hp : isPlain s = true) (hf : ∀ y, s.head? = some y → y ≠ 32) (y0 : UInt8) (hy0 : l[at_ + 2]? = some y0) (hy1 : y0 ≠ 32) :
    Calls Tryz.prog 34 #[.pointer (some ⟨R, 0, none⟩)] w fun e w' => e = .returned (.string ⟨s.toArray⟩) ∧ RdAt w' R A l c (at_ + (s.length + 4)) ∧ BelowBut w.heap.size R w w' := by
  have h1 : ∀ k (h : k < ([58, 32] : List UInt8).length), l[at_ + k]? = some ([58, 32] : List UInt8)[k] := by
    intro k hk
    have hk2 : k < 2 := hk
    have := hs k (by simp; omega)
    rw [this]
    congr 1
    rw [List.getElem_append_left (by simp; omega), List.getElem_append_left (by simpa using hk2)]
  have HM1 := Lib.hid (rmatch_ok h [58, 32] (by simp; omega) h1)
  have HY0 := Lib.hid hy0
  have HY1 := Lib.hid hy1
  clear h1 hy0 hy1
  go_enter Tryz.func34, Tryz.ntmps34
  go_wp2_with fail
  refine HM1.out.mono ?_
  rintro e w1 ⟨rfl, hr1, hb1⟩
  have c0 := hr1.blk.cell 0
  have c1 := hr1.blk.cell 1
  have c2 := hr1.blk.cell 2
  have hl1 := hr1.blk.lt
  obtain ⟨q, hq⟩ : ∃ q, at_ + ([58, 32] : List UInt8).length = q := ⟨_, rfl⟩
  rw [hq] at c1
  have hql : q < l.length := by simp at hq; omega
  have hqi : ((q : Nat) : Int) < ((l.length : Nat) : Int) := by omega
  obtain ⟨b, off, hA, hbB, hcl⟩ := reads_byte hr1.rd hql
  have hyq : l[q] = y0 := by
    have h := HY0.out
    rw [show at_ + 2 = q from hq, List.getElem?_eq_getElem hql] at h
    exact Option.some.inj h
  rw [hyq] at hcl
  have hbw := Nat.lt_trans hbB hl1
  subst hA
  obtain ⟨n0, hn0⟩ : ∃ n0, y0.toNat = n0 := ⟨_, rfl⟩
  rw [hn0] at hcl
  have hn1 : n0 ≠ 32 := fun e => HY1.out (UInt8.toNat_inj.1 (by rw [hn0, e]; rfl))
  have hn2 : ¬ ((n0 : Nat) : Int) = 32 := by omega
  have hn3 : (((n0 : Nat) : Int) == 32) = false := by simpa using hn2
  have HB1 := Lib.hid hb1
  have HR1 := Lib.hid hr1
  have HSS := Lib.hid hs
  have HQ := Lib.hid hq
  have HP := Lib.hid hp
  clear hyq hq hb1 hr1 hs hp
  go_wp2_with fail
  go_region
  have hq3 : at_ + 2 = q := HQ.out
  have hmid : ∀ k (h : k < s.length), l[q + k]? = some s[k] := by
    intro k hk
    have := HSS.out (2 + k) (by simp; omega)
    rw [← hq3, show at_ + 2 + k = at_ + (2 + k) by omega, this]
    congr 1
    rw [List.getElem_append_left (by simp; omega), List.getElem_append_right (by simp)]
    simp
  have hend : ∀ k (h : k < ([13, 10] : List UInt8).length), l[q + s.length + k]? = some ([13, 10] : List UInt8)[k] := by
    intro k hk
    have hk2 : k < 2 := hk
    have := HSS.out (2 + s.length + k) (by simp; omega)
    rw [← hq3, show at_ + 2 + s.length + k = at_ + (2 + s.length + k) by omega, this]
    congr 1
    rw [List.getElem_append_right (by simp; omega)]
    congr 1
    simp
    omega
  have hx : l[q + s.length]? = some 13 := by
    have := hend 0 (by decide)
    simpa using this
  have hpp := HP.out
  have hall : s.all seen = true := by
    unfold isPlain at hpp
    simp only [Bool.and_eq_true] at hpp
    exact hpp.2
  have hlen : s.length ≤ 400 := by
    unfold isPlain at hpp
    simp only [Bool.and_eq_true, decide_eq_true_eq] at hpp
    exact hpp.1.1
  have hR2 : RdAt w1.drew R (some ⟨b, off, none⟩) l c q := by
    have h := HR1.out
    rw [HQ.out] at h
    exact h.next ((Below.refl _ _).drew)
  have HU := Lib.hid (runtil_plain hR2 13 s hmid hx (fun y hy => ⟨List.all_eq_true.1 hall y hy, fun e => by
    have := List.all_eq_true.1 hall y hy
    rw [← e] at this
    cases this⟩) hlen)
  have HE := Lib.hid hend
  have HLN := Lib.hid hlen
  clear hmid hend hx hpp hall hR2 hq3 hlen
  go_wp2_with fail
  refine HU.out.mono ?_
  rintro e w2 ⟨rfl, hr2, hb2⟩
  have HR2 := Lib.hid hr2
  have HB2 := Lib.hid (HB1.out.next2 ((BelowBut.refl w1.heap.size R w1).drew.next2 hb2))
  have HPL := Lib.hid (show Calls Tryz.prog 73 #[.string ⟨s.toArray⟩] w2 fun e w' => e = .returned (.bool true) ∧ Below w2.heap.size w2 w' from by rw [← HP.out]; exact plain_any s (by have := HLN.out; omega) w2)
  clear hr2 hb2
  go_wp2_with fail
  refine HPL.out.mono ?_
  rintro e w3 ⟨rfl, hb3⟩
  have HR3 := Lib.hid (HR2.out.next hb3)
  have HB3 := Lib.hid (HB2.out.next2 (BelowBut.of hb3))
  clear hb3
  go_wp2_with fail
  refine (rneed_ok HR3.out).mono ?_
  rintro e w4 ⟨rfl, rfl⟩
  have HM2 := Lib.hid (rmatch_ok HR3.out [13, 10] (by have := HQ.out; simp at this ⊢; omega) HE.out)
  go_wp2_with fail
  refine HM2.out.mono ?_
  rintro e w5 ⟨rfl, hr5, hb5⟩
  have HR5 := Lib.hid hr5
  have HB5 := Lib.hid (HB3.out.next2 hb5)
  clear hr5 hb5
  go_wp2
  go_ret
  refine ⟨rfl, ?_, HB5.out⟩
  have h := HR5.out
  rwa [show q + s.length + ([13, 10] : List UInt8).length = at_ + (s.length + 4) by have := HQ.out; simp at this ⊢; omega] at h
end Go.Proofs.YtbgnggkgmeagkaaGreatDoor
namespace Go.Proofs.YtbgnggkgmeagkaaGreatDoor
open Go.RowKit

/-- A reader ahead of which these bytes stand. -/
structure RdR (w : World) (R : Nat) (A : Option Addr) (l : List UInt8) (c at_ : Nat) (rest : List UInt8) : Prop where
  rd : RdAt w R A l c at_
  eq : l.drop at_ = rest
theorem drop_get {l s r : List UInt8} {a : Nat} (h : l.drop a = s ++ r) : ∀ k (hk : k < s.length), l[a + k]? = some s[k] := by
  intro k hk
  rw [← List.getElem?_drop, h, List.getElem?_append_left hk, List.getElem?_eq_getElem hk]
theorem drop_next {l s r : List UInt8} {a : Nat} (h : l.drop a = s ++ r) : l.drop (a + s.length) = r := by
  rw [← List.drop_drop, h]
  simp
theorem drop_le {l s r : List UInt8} {a : Nat} (h : l.drop a = s ++ r) (ha : a ≤ l.length) : a + s.length ≤ l.length := by
  have := congrArg List.length h
  rw [List.length_drop, List.length_append] at this
  omega
theorem dropWhile_head (p : UInt8 → Bool) : ∀ (m : List UInt8) {y : UInt8}, (m.dropWhile p).head? = some y → p y = false
  | [], _, h => by simp at h
  | a :: m, y, h => by
    rw [List.dropWhile_cons] at h
    by_cases ha : p a = true
    · rw [if_pos ha] at h
      exact dropWhile_head p m h
    · rw [if_neg ha] at h
      simp only [List.head?_cons, Option.some.injEq] at h
      rw [← h]
      simpa using ha
theorem trimB_head {s : List UInt8} {y : UInt8} (h : Lib.trimB s 32 = s) (hy : s.head? = some y) : y ≠ 32 := by
  rw [← h] at hy
  have := dropWhile_head _ _ hy
  simpa using this
section
variable {w w1 : World} {R c at_ : Nat} {A : Option Addr} {l rest : List UInt8}
theorem RdR.next (h : RdR w R A l c at_ rest) (hb : Below w.heap.size w w1) : RdR w1 R A l c at_ rest := ⟨h.rd.next hb, h.eq⟩
/-- What the reader's cells hold; the byte ahead. -/
theorem RdR.len (h : RdR w R A l c at_ rest) : at_ + rest.length = l.length := by
  have := congrArg List.length h.eq
  have := h.rd.le
  rw [List.length_drop] at *
  omega
theorem RdR.head (h : RdR w R A l c at_ rest) {x : UInt8} {r : List UInt8} (e : rest = x :: r) : ∃ b off, A = some ⟨b, off, none⟩ ∧ b < R ∧ at_ < l.length ∧ w.cell? ⟨b, off + at_, none⟩ = some (.int .u8 ((x.toNat : Nat) : Int)) := by
  have h1 := h.len
  have h2 : at_ < l.length := by rw [e] at h1; simp at h1; omega
  obtain ⟨b, off, hA, hb, hc⟩ := reads_byte h.rd.rd h2
  have h3 : l[at_] = x := by
    have := drop_get (s := [x]) (r := r) (h.eq.trans e) 0 (by simp)
    rw [Nat.add_zero, List.getElem?_eq_getElem h2] at this
    simpa using this
  exact ⟨b, off, hA, hb, h2, by rw [← h3]; exact hc⟩
theorem rmatch_rest {s : List UInt8} (h : RdR w R A l c at_ (s ++ rest)) :
    Calls Tryz.prog 32 #[.pointer (some ⟨R, 0, none⟩), .string ⟨s.toArray⟩] w fun e w' => e = .returned (.tuple #[]) ∧ (∃ a2, RdR w' R A l c a2 rest) ∧ BelowBut w.heap.size R w w' := by
  refine (rmatch_ok h.rd s (drop_le h.eq h.rd.le) (drop_get h.eq)).mono ?_
  rintro e w' ⟨he, h1, h2⟩
  exact ⟨he, ⟨_, h1, drop_next h.eq⟩, h2⟩
theorem rest_until {s : List UInt8} {x : UInt8} (h : RdR w R A l c at_ (s ++ x :: rest)) : l[at_ + s.length]? = some x := by
  have := drop_get (s := s ++ [x]) (r := rest) (by rw [h.eq]; simp) s.length (by simp)
  simpa using this
theorem until_token {s : List UInt8} {x : UInt8} (h : RdR w R A l c at_ (s ++ x :: rest)) (hm : ∀ y ∈ s, tokL.contains y = true ∧ x ≠ y) (hl4 : s.length ≤ 400) :
    Calls Tryz.prog 29 #[.pointer (some ⟨R, 0, none⟩), .string ⟨#[x]⟩, fnV 30, .int .i64 400] w fun e w' => e = .returned (.string ⟨s.toArray⟩) ∧ (∃ a2, RdR w' R A l c a2 (x :: rest)) ∧ BelowBut w.heap.size R w w' := by
  refine (runtil_token h.rd x s (drop_get h.eq) (rest_until h) hm hl4).mono ?_
  rintro e w' ⟨he, h1, h2⟩
  exact ⟨he, ⟨_, h1, drop_next h.eq⟩, h2⟩
theorem until_visible {s : List UInt8} {x : UInt8} (h : RdR w R A l c at_ (s ++ x :: rest)) (hm : ∀ y ∈ s, visB y = true ∧ x ≠ y) (hl4 : s.length ≤ 400) :
    Calls Tryz.prog 29 #[.pointer (some ⟨R, 0, none⟩), .string ⟨#[x]⟩, fnV 33, .int .i64 400] w fun e w' => e = .returned (.string ⟨s.toArray⟩) ∧ (∃ a2, RdR w' R A l c a2 (x :: rest)) ∧ BelowBut w.heap.size R w w' := by
  refine (runtil_visible h.rd x s (drop_get h.eq) (rest_until h) hm hl4).mono ?_
  rintro e w' ⟨he, h1, h2⟩
  exact ⟨he, ⟨_, h1, drop_next h.eq⟩, h2⟩
theorem until_letter {s : List UInt8} {x : UInt8} (h : RdR w R A l c at_ (s ++ x :: rest)) (hm : ∀ y ∈ s, smallL.contains y = true ∧ x ≠ y) (hl4 : s.length ≤ 400) :
    Calls Tryz.prog 29 #[.pointer (some ⟨R, 0, none⟩), .string ⟨#[x]⟩, fnV 81, .int .i64 400] w fun e w' => e = .returned (.string ⟨s.toArray⟩) ∧ (∃ a2, RdR w' R A l c a2 (x :: rest)) ∧ BelowBut w.heap.size R w w' := by
  refine (runtil_letter h.rd x s (drop_get h.eq) (rest_until h) hm hl4).mono ?_
  rintro e w' ⟨he, h1, h2⟩
  exact ⟨he, ⟨_, h1, drop_next h.eq⟩, h2⟩
theorem value_rest {s : List UInt8} (h : RdR w R A l c at_ ([58, 32] ++ s ++ [13, 10] ++ rest)) (hp : isPlain s = true) :
    Calls Tryz.prog 34 #[.pointer (some ⟨R, 0, none⟩)] w fun e w' => e = .returned (.string ⟨s.toArray⟩) ∧ (∃ a2, RdR w' R A l c a2 rest) ∧ BelowBut w.heap.size R w w' := by
  have hh : ∀ y, s.head? = some y → y ≠ 32 := by
    rintro y hy rfl
    unfold isPlain at hp
    simp only [Bool.and_eq_true, decide_eq_true_eq] at hp
    exact trimB_head hp.1.2 hy rfl
  have hg := drop_get h.eq
  obtain ⟨y0, h0, h1⟩ : ∃ y0, l[at_ + 2]? = some y0 ∧ y0 ≠ 32 := by
    have h2 := hg 2 (by simp)
    cases s with
    | nil => exact ⟨13, by simpa using h2, by decide⟩
    | cons y t => exact ⟨y, by simpa using h2, hh y rfl⟩
  have hle := drop_le h.eq h.rd.le
  refine (rvalue_ok h.rd s hg (by simp at hle; omega) hp hh y0 h0 h1).mono ?_
  rintro e w' ⟨he, h3, h4⟩
  refine ⟨he, ⟨_, h3, ?_⟩, h4⟩
  have := drop_next h.eq
  rw [← this]
  congr 1
  simp
end
end Go.Proofs.YtbgnggkgmeagkaaGreatDoor
namespace Go.Proofs.YtbgnggkgmeagkaaGreatDoor
open Go.RowKit

/-- The number that digits say. -/
def digV (l : List UInt8) : Nat := l.foldl (fun n c => 10 * n + (c.toNat - 48)) 0
theorem digV_snoc (l : List UInt8) (c : UInt8) : digV (l ++ [c]) = 10 * digV l + (c.toNat - 48) := by simp [digV]
theorem digV_le (a b : List UInt8) : digV a ≤ digV (a ++ b) := by
  induction b generalizing a with
  | nil => simp
  | cons c b ih =>
    have h1 := ih (a ++ [c])
    rw [digV_snoc, List.append_assoc] at h1
    simp only [List.singleton_append] at h1
    omega
theorem digV_take_le (l : List UInt8) (k : Nat) : digV (l.take k) ≤ digV l := by
  have := digV_le (l.take k) (l.drop k)
  rwa [List.take_append_drop] at this
theorem ofNat48 (u : Nat) (h : u < 10) : (UInt8.ofNat (48 + u)).toNat = 48 + u := by
  simp
  omega
theorem digV_dec (u : Nat) : digV (Lib.decDigits u) = u := by
  induction u using Nat.strongRecOn with
  | _ u ih =>
    rw [Lib.decDigits]
    split
    · rename_i h
      show 10 * 0 + ((UInt8.ofNat (48 + u)).toNat - 48) = u
      rw [ofNat48 u h]
      omega
    · rename_i h
      rw [digV_snoc, ih (u / 10) (by omega), ofNat48 _ (Nat.mod_lt _ (by decide))]
      omega
theorem dec_range (u : Nat) : ∀ y ∈ Lib.decDigits u, 48 ≤ y.toNat ∧ y.toNat ≤ 57 := by
  induction u using Nat.strongRecOn with
  | _ u ih =>
    rw [Lib.decDigits]
    split
    · rename_i h
      intro y hy
      rw [List.mem_singleton] at hy
      rw [hy, ofNat48 u h]
      omega
    · rename_i h
      intro y hy
      rcases List.mem_append.1 hy with h1 | h1
      · exact ih (u / 10) (by omega) y h1
      · rw [List.mem_singleton] at h1
        have := Nat.mod_lt u (show 0 < 10 by decide)
        rw [h1, ofNat48 _ this]
        omega
theorem dec_first (u : Nat) (h : 1 ≤ u) : ∃ y t, Lib.decDigits u = y :: t ∧ 49 ≤ y.toNat := by
  induction u using Nat.strongRecOn with
  | _ u ih =>
    rw [Lib.decDigits]
    split
    · rename_i h1
      exact ⟨_, _, rfl, by rw [ofNat48 u h1]; omega⟩
    · rename_i h1
      obtain ⟨y, t, e, hy⟩ := ih (u / 10) (by omega) (by omega)
      exact ⟨y, t ++ _, by rw [e]; rfl, hy⟩
theorem dec_len (u : Nat) (k : Nat) (h : u < 10 ^ (k + 1)) : (Lib.decDigits u).length ≤ k + 1 := by
  induction k generalizing u with
  | zero =>
    rw [Lib.decDigits, dif_pos (by omega)]
    simp
  | succ k ih =>
    rw [Lib.decDigits]
    split
    · simp
    · rename_i h1
      rw [List.length_append]
      have := ih (u / 10) (by rw [Nat.pow_succ] at h; omega)
      simp
      omega
/-- " EDGE/1\r\nhost: " in its two pieces. -/
def edgeL : List UInt8 := [32, 69, 68, 71, 69, 47, 49, 13, 10, 104, 111, 115, 116]
def lenL (n : Nat) : List UInt8 := if n = 0 then [] else lengthL ++ ([58, 32] ++ (Lib.decDigits n ++ [13, 10]))
/-- What line.Ask writes. -/
def askL (m p h : List UInt8) (fs : List Fld) (b : List UInt8) : List UInt8 := m ++ (32 :: (p ++ (edgeL ++ ([58, 32] ++ (h ++ ([13, 10] ++ (linesL fs ++ (lenL b.length ++ ([13, 10] ++ b)))))))))
theorem lenL_len (n : Nat) (h : n ≤ 8000) : (lenL n).length ≤ 16 := by
  unfold lenL
  split
  · simp
  · have := dec_len n 3 (by omega)
    simp [lengthL]
    omega
theorem askL_len (m p h : List UInt8) (fs : List Fld) (b : List UInt8) (hm : m.length ≤ 400) (hp : p.length ≤ 400) (hh : h.length ≤ 400) (hf : fs.length ≤ 40 ∧ ∀ f ∈ fs, f.1.length ≤ 400 ∧ f.2.length ≤ 400) (hb : b.length ≤ 8000) : (askL m p h fs b).length ≤ 50000 := by
  have h1 := linesL_len fs hf.2
  have h2 := lenL_len b.length hb
  have h3 := hf.1
  simp [askL, edgeL]
  omega
end Go.Proofs.YtbgnggkgmeagkaaGreatDoor
