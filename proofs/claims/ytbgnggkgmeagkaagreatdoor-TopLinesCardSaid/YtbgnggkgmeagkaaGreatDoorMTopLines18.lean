/-
  What a token, a plain text, a word, a name are, and line's functions that tell. No condition but that a text has a length that an int holds.
  slices.IndexFunc, ContainsFunc over bytes with line's own test; plain texts, words, names. No condition but that a text has a length that an int holds.
  Words, names, what a request's fields are told to be. No condition but that texts have lengths that an int holds.
  What is wrong with a request's fields, and with a request. No condition but that texts have lengths that an int holds.
  What is wrong with a request. No condition but that texts have lengths that an int holds.
-/
import Derived.Test.YtbgnggkgmeagkaaGreatDoorMTopLines02
import Derived.Test.YtbgnggkgmeagkaaGreatDoorShelf
import Derived.Shelf.Strings.SlTrimAscii
import Derived.Deep.LoopGhost
import Derived.Test.YtbgnggkgmeagkaaGreatDoorMTopLines03
import Derived.Deep.CutRange
set_option linter.unusedSimpArgs false
set_option linter.unusedVariables false
namespace Go.Proofs.YtbgnggkgmeagkaaGreatDoor
open Go.RowKit

def smallL : List UInt8 := [97, 98, 99, 100, 101, 102, 103, 104, 105, 106, 107, 108, 109, 110, 111, 112, 113, 114, 115, 116, 117, 118, 119, 120, 121, 122, 48, 49, 50, 51, 52, 53, 54, 55, 56, 57, 45, 95]
def greatL : List UInt8 := [65, 66, 67, 68, 69, 70, 71, 72, 73, 74, 75, 76, 77, 78, 79, 80, 81, 82, 83, 84, 85, 86, 87, 88, 89, 90]
def tokL : List UInt8 := smallL ++ greatL
def isTok (l : List UInt8) : Bool := decide (l ≠ []) && decide (l.length ≤ 400) && l.all (tokL.contains ·)
def seen (c : UInt8) : Bool := decide (32 ≤ c.toNat) && decide (c.toNat ≤ 126)
def isPlain (l : List UInt8) : Bool := decide (l.length ≤ 400) && decide (Lib.trimB l 32 = l) && l.all seen
def isWord (l : List UInt8) : Bool := decide (l ≠ []) && isPlain l && !(decide (0 ≤ Lib.indexByte l 32))
def isName (l : List UInt8) : Bool := isTok l && l.all (smallL.contains ·)

theorem dropWhile_nil (l : List UInt8) (p : UInt8 → Bool) : l.dropWhile p = [] ↔ l.all p = true := by
  induction l with
  | nil => simp
  | cons a l ih =>
    rw [List.dropWhile_cons, List.all_cons]
    cases h : p a with
    | true => simpa using ih
    | false => simp
theorem all_while (l : List UInt8) (p : UInt8 → Bool) : (l.takeWhile p).all p = true := by
  induction l with
  | nil => rfl
  | cons a l ih =>
    rw [List.takeWhile_cons]
    cases h : p a with
    | true => simp [h]
    | false => rfl
theorem below_dn {B : Nat} {w w1 : World} (h : Below B w w1) (n : Nat) : Below B w (w1.drewN n) := ⟨h.os, h.tape, h.output, h.size, h.block⟩
theorem trimS_nil (l cs : List UInt8) : Lib.trimS l cs = [] ↔ l.all (cs.contains ·) = true := by
  unfold Lib.trimS Lib.trimLeftS Lib.trimRightS
  rw [dropWhile_nil]
  constructor
  · intro h
    have h2 : (l.reverse.dropWhile (cs.contains ·)).all (cs.contains ·) = true := by simpa using h
    have h3 := List.takeWhile_append_dropWhile (p := (cs.contains ·)) (l := l.reverse)
    have h4 : l.reverse.all (cs.contains ·) = true := by
      rw [← h3, List.all_append, h2, Bool.and_true]
      exact all_while _ _
    simpa using h4
  · intro h
    have h2 : l.reverse.dropWhile (cs.contains ·) = [] := (dropWhile_nil _ _).2 (by simpa using h)
    rw [h2]
    rfl
theorem set_info : ∀ w, (zeroValue 280).run Tryz.prog w = .ok (.agg (Array.replicate 256 (.bool false))) w := by
  intro w
  kernel_rfl
/-- strings.Trim with many letters to cut. -/
theorem trim_any (s cs : List UInt8) (hs : s ≠ []) (hsl : s.length ≤ 9223372036854775807) (h2 : 2 ≤ cs.length) (hcl : cs.length < 4294967281) (ha : ∀ (j : Nat) b, cs[j]? = some b → b.toNat < 128) (w : World) :
    Calls Tryz.prog 134 #[.string ⟨s.toArray⟩, .string ⟨cs.toArray⟩] w fun e w' => e = .returned (.string ⟨(Lib.trimS s cs).toArray⟩) ∧ Below w.heap.size w w' := by
  refine (Any.strings_Trim_set Tryz.lays160 set_info (by kernel_rfl) ⟨s.toArray⟩ ⟨cs.toArray⟩ w h2 (by cases s with | nil => exact absurd rfl hs | cons a t => simp [ByteArray.size]) hsl hcl (by simpa using ha)).mono ?_
  rintro e w' ⟨he, q, rfl⟩
  exact ⟨he, below_dn (((Below.refl _ _).alloc (Nat.le_refl _) _).alloc (by simp) _) q⟩
theorem tok_ascii : ∀ (j : Nat) (b : UInt8), tokL[j]? = some b → b.toNat < 128 := by
  intro j b h
  have h2 : b ∈ tokL := List.mem_of_getElem? h
  have h3 : ∀ b ∈ tokL, b.toNat < 128 := by decide
  exact h3 b h2
theorem small_ascii : ∀ (j : Nat) (b : UInt8), smallL[j]? = some b → b.toNat < 128 := by
  intro j b h
  have h2 : b ∈ smallL := List.mem_of_getElem? h
  have h3 : ∀ b ∈ smallL, b.toNat < 128 := by decide
  exact h3 b h2

set_option maxRecDepth 100000 in
set_option maxHeartbeats 1000000 in
theorem token_any (l : List UInt8) (hl : l.length ≤ 9223372036854775807) (w : World) :
    Calls Tryz.prog 71 #[.string ⟨l.toArray⟩] w fun e w' => e = .returned (.bool (isTok l)) ∧ Below w.heap.size w w' := by
  by_cases h0 : l = []
  · subst h0
    go_enter Tryz.func71, Tryz.ntmps71
    go_wp2
    go_ret
    exact ⟨rfl, Below.refl _ _⟩
  · by_cases h4 : l.length ≤ 400
    · have HT := Lib.hid (trim_any l tokL h0 hl (by decide) (by decide) tok_ascii w)
      have hne : ((ByteArray.mk l.toArray) == ⟨#[]⟩) = false := by
        cases l with
        | nil => exact absurd rfl h0
        | cons a t => rfl
      have hsz : (ByteArray.mk l.toArray).size = l.length := rfl
      have i4 : ((l.length : Nat) : Int) ≤ 400 := by omega
      have i5 := decide_eq_true i4
      obtain ⟨t, ht⟩ : ∃ t, Lib.trimS l tokL = t := ⟨_, rfl⟩
      have htn := trimS_nil l tokL
      rw [ht] at htn HT
      have HTN := Lib.hid htn
      have H0 := Lib.hid h0
      clear htn ht
      go_enter Tryz.func71, Tryz.ntmps71
      go_wp2_with fail
      refine HT.out.mono ?_
      rintro e w' ⟨rfl, hb⟩
      have HB := Lib.hid hb
      clear hb
      go_wp2
      go_ret
      refine ⟨?_, HB.out⟩
      have e1 : l.isEmpty = false := by simpa using H0.out
      have e2 : t.isEmpty = l.all (tokL.contains ·) := by rw [Bool.eq_iff_iff, List.isEmpty_iff]; exact HTN.out
      have e3 : isTok l = (!l.isEmpty && t.isEmpty) := by rw [e1, e2]; simp [isTok, H0.out, h4]
      rw [e3]
      rfl
    · have hsz : (ByteArray.mk l.toArray).size = l.length := rfl
      have i4 : ¬ ((l.length : Nat) : Int) ≤ 400 := by omega
      have i5 := decide_eq_false i4
      have e3 : isTok l = false := by simp [isTok, h4]
      have HE := Lib.hid e3
      clear e3
      go_enter Tryz.func71, Tryz.ntmps71
      go_wp2
      go_ret
      rw [HE.out]
      exact ⟨by simp, Below.refl _ _⟩
set_option maxRecDepth 100000 in
set_option maxHeartbeats 1000000 in
theorem plain1_any (c : UInt8) (w : World) :
    Calls Tryz.prog 137 #[.int .u8 ((c.toNat : Nat) : Int)] w fun e w' => e = .returned (.bool (!seen c)) ∧ w = w' := by
  obtain ⟨n, hn⟩ : ∃ n, c.toNat = n := ⟨_, rfl⟩
  have hs : seen c = (decide (32 ≤ n) && decide (n ≤ 126)) := by rw [← hn]; rfl
  rw [hn, hs]
  clear hs hn
  by_cases h1 : n < 32
  · have i1 : ((n : Nat) : Int) < 32 := by omega
    have i2 := decide_eq_true i1
    go_enter Tryz.func137, Tryz.ntmps137
    go_wp2
    go_ret
    refine ⟨?_, rfl⟩
    have : decide (32 ≤ n) = false := decide_eq_false (by omega)
    rw [this]
    rfl
  · by_cases h2 : 126 < n
    · have i1 : ¬ ((n : Nat) : Int) < 32 := by omega
      have i2 := decide_eq_false i1
      have i3 : (126 : Int) < ((n : Nat) : Int) := by omega
      have i4 := decide_eq_true i3
      go_enter Tryz.func137, Tryz.ntmps137
      go_wp2
      go_ret
      refine ⟨?_, rfl⟩
      have : decide (n ≤ 126) = false := decide_eq_false (by omega)
      rw [this, Bool.not_false, Bool.or_true]
      rfl
    · have i1 : ¬ ((n : Nat) : Int) < 32 := by omega
      have i2 := decide_eq_false i1
      have i3 : ¬ (126 : Int) < ((n : Nat) : Int) := by omega
      have i4 := decide_eq_false i3
      go_enter Tryz.func137, Tryz.ntmps137
      go_wp2
      go_ret
      refine ⟨?_, rfl⟩
      have e1 : decide (n ≤ 126) = true := decide_eq_true (by omega)
      have e2 : decide (32 ≤ n) = true := decide_eq_true (by omega)
      rw [e1, e2]
      rfl
end Go.Proofs.YtbgnggkgmeagkaaGreatDoor
namespace Go.Proofs.YtbgnggkgmeagkaaGreatDoor
open Go.RowKit

abbrev fnV (f : FuncId) : Value := .func (.func f) #[] #[]
set_option maxRecDepth 100000 in
set_option maxHeartbeats 1000000 in
theorem indexF_any (l : List UInt8) (A : Option Addr) (n c : Nat) (hn : n = l.length) (hl : l.length ≤ 9223372036854775807) (w : World) (hr : Reads w w.heap.size 1 A l.length (bs l)) :
    Calls Tryz.prog 195 #[.slice A n c, fnV 137] w fun e w' => (∃ z : Int, e = .returned (.int .i64 z) ∧ decide (0 ≤ z) = !(l.all seen)) ∧ w = w' := by
  subst hn
  go_enter Tryz.func195, Tryz.ntmps195
  go_wp2_with fail
  go_loopg [8] l.length (fun m i wr => ∃ k : Nat, m + k = l.length ∧ i = .int .i64 (k : Int) ∧ Hid ((l.take k).all seen = true) ∧ w = wr)
  case atStart => exact ⟨0, rfl, rfl, rfl, rfl⟩
  case round =>
    obtain ⟨k, hk, rfl, HT, rfl⟩ := hrel
    by_cases hlt : k < l.length
    · obtain ⟨b, off, hA, hbB, hcl⟩ := reads_byte hr hlt
      subst hA
      obtain ⟨x, hx⟩ : ∃ x, l[k] = x := ⟨_, rfl⟩
      rw [hx] at hcl
      have HX := Lib.hid hx
      have hki : ((k : Nat) : Int) < ((l.length : Nat) : Int) := by omega
      clear hx hr
      cases hs : seen x with
      | true =>
        have HP := Lib.hid (plain1_any x w)
        rw [hs] at HP
        have HS := Lib.hid hs
        clear hs
        go_wp2_with fail
        refine HP.out.mono ?_
        rintro e w' ⟨rfl, rfl⟩
        go_wp2_with fail
        go_roundg (gk - 1)
        case measure => omega
        case rel => exact ⟨k + 1, by omega, by go_num, by show (l.take (k + 1)).all seen = true; rw [List.take_succ_eq_append_getElem hlt, List.all_append, HT.out, HX.out]; simp [HS.out], rfl⟩
      | false =>
        have HP := Lib.hid (plain1_any x w)
        rw [hs] at HP
        have hal : l.all seen = false := by
          rw [List.all_eq_false]
          exact ⟨x, by rw [← HX.out]; exact List.getElem_mem hlt, by rw [hs]; simp⟩
        have HAL := Lib.hid hal
        clear hs hal
        go_wp2_with fail
        refine HP.out.mono ?_
        rintro e w' ⟨rfl, rfl⟩
        go_wp2
        go_ret
        exact ⟨⟨_, rfl, by rw [HAL.out]; simp⟩, rfl⟩
    · have hkl : k = l.length := by omega
      have hal : l.all seen = true := by
        have h := HT.out
        rwa [hkl, List.take_length] at h
      have HAL := Lib.hid hal
      have hki : ¬ ((k : Nat) : Int) < ((l.length : Nat) : Int) := by omega
      clear hal hr
      go_wp2
      go_ret
      exact ⟨⟨_, rfl, by rw [HAL.out]; simp⟩, rfl⟩
set_option maxRecDepth 100000 in
set_option maxHeartbeats 1000000 in
theorem containsF_any (l : List UInt8) (A : Option Addr) (n c : Nat) (hn : n = l.length) (hl : l.length ≤ 9223372036854775807) (w : World) (hr : Reads w w.heap.size 1 A l.length (bs l)) :
    Calls Tryz.prog 136 #[.slice A n c, fnV 137] w fun e w' => e = .returned (.bool (!(l.all seen))) ∧ w = w' := by
  have HI := Lib.hid (indexF_any l A n c hn hl w hr)
  clear hr hn
  go_enter Tryz.func136, Tryz.ntmps136
  go_wp2_with fail
  refine HI.out.mono ?_
  rintro e w' ⟨⟨z, rfl, hz⟩, rfl⟩
  go_wp2
  go_ret
  refine ⟨?_, rfl⟩
  rw [← hz]
  rfl
set_option maxRecDepth 100000 in
set_option maxHeartbeats 1000000 in
theorem plain_any (l : List UInt8) (hl : l.length ≤ 9223372036854775807) (w : World) :
    Calls Tryz.prog 73 #[.string ⟨l.toArray⟩] w fun e w' => e = .returned (.bool (isPlain l)) ∧ Below w.heap.size w w' := by
  have hsz : (ByteArray.mk l.toArray).size = l.length := rfl
  by_cases h4 : l.length ≤ 400
  · have i4 : ((l.length : Nat) : Int) ≤ 400 := by omega
    have i5 := decide_eq_true i4
    have HT := Lib.hid (Tryz.strings_Trim_one ⟨l.toArray⟩ 32 (by decide) w hl)
    obtain ⟨t, ht⟩ : ∃ t, Lib.trimB l 32 = t := ⟨_, rfl⟩
    have ht' : Lib.trimB (ByteArray.mk l.toArray).data.toList 32 = t := ht
    rw [ht'] at HT
    have HTE := Lib.hid ht
    clear ht ht'
    go_enter Tryz.func73, Tryz.ntmps73
    go_wp2_with fail
    refine HT.out.mono ?_
    rintro e w1 ⟨rfl, hw1⟩
    have hb1 : Below w.heap.size w w1 := by
      rcases hw1 with rfl | rfl
      · exact Below.refl _ _
      · exact (Below.refl _ _).drew
    have HB1 := Lib.hid hb1
    clear hw1 hb1
    by_cases htl : t = l
    · have hpl : isPlain l = l.all seen := by
        have e1 : decide (Lib.trimB l 32 = l) = true := decide_eq_true (HTE.out.trans htl)
        have e2 := decide_eq_true h4
        unfold isPlain
        rw [e1, e2]
        rfl
      have HPL := Lib.hid hpl
      have e3 : (t == l) = true := by rw [htl]; simp
      obtain ⟨c, W, hk, hcap, hr, hbW, hWs⟩ := conv_bytes w1 l
      have HC := Lib.hid (containsF_any l _ _ c rfl hl W hr)
      have HBW := Lib.hid hbW
      clear hcap hr hbW hWs hpl htl
      go_wp2_with fail
      refine HC.out.mono ?_
      rintro e w2 ⟨rfl, rfl⟩
      go_wp2
      go_ret
      refine ⟨?_, HB1.out.trans (HBW.out.mono HB1.out.size)⟩
      rw [HPL.out]
      simp
    · have hpl : isPlain l = false := by
        have e1 : decide (Lib.trimB l 32 = l) = false := decide_eq_false (fun h => htl (HTE.out.symm.trans h))
        unfold isPlain
        rw [e1, Bool.and_false]
        rfl
      have HPL := Lib.hid hpl
      have e3 : (t == l) = false := beq_eq_false_iff_ne.2 htl
      clear hpl htl
      go_wp2
      go_ret
      exact ⟨by rw [HPL.out]; rfl, HB1.out⟩
  · have i4 : ¬ ((l.length : Nat) : Int) ≤ 400 := by omega
    have i5 := decide_eq_false i4
    have e3 : isPlain l = false := by simp [isPlain, h4]
    have HE := Lib.hid e3
    clear e3
    go_enter Tryz.func73, Tryz.ntmps73
    go_wp2
    go_ret
    exact ⟨by rw [HE.out]; rfl, Below.refl _ _⟩
end Go.Proofs.YtbgnggkgmeagkaaGreatDoor
namespace Go.Proofs.YtbgnggkgmeagkaaGreatDoor
open Go.RowKit

def hostL : List UInt8 := [104, 111, 115, 116]
def lengthL : List UInt8 := [108, 101, 110, 103, 116, 104]
def codingL : List UInt8 := [99, 111, 100, 105, 110, 103]
def isOwn (l : List UInt8) : Bool := l == hostL || (l == lengthL || l == codingL)
def fldE : List Fld → Nat
  | [] => 0
  | f :: l => if (isName f.1 && isPlain f.2) = false then 2 else if isOwn f.1 = true then 3 else fldE l

set_option maxRecDepth 100000 in
set_option maxHeartbeats 1000000 in
theorem word_any (l : List UInt8) (hl : l.length ≤ 9223372036854775807) (w : World) :
    Calls Tryz.prog 72 #[.string ⟨l.toArray⟩] w fun e w' => e = .returned (.bool (isWord l)) ∧ Below w.heap.size w w' := by
  by_cases h0 : l = []
  · subst h0
    go_enter Tryz.func72, Tryz.ntmps72
    go_wp2
    go_ret
    exact ⟨rfl, Below.refl _ _⟩
  · have HP := Lib.hid (plain_any l hl w)
    have e0 : l.isEmpty = false := by simpa using h0
    have H0 := Lib.hid h0
    clear h0
    cases hp : isPlain l with
    | false =>
      rw [hp] at HP
      have HE := Lib.hid (show isWord l = false by simp [isWord, hp])
      clear hp
      go_enter Tryz.func72, Tryz.ntmps72
      go_wp2_with fail
      refine HP.out.mono ?_
      rintro e w1 ⟨rfl, hb⟩
      have HB := Lib.hid hb
      clear hb
      go_wp2
      go_ret
      exact ⟨by rw [HE.out]; rfl, HB.out⟩
    | true =>
      rw [hp] at HP
      obtain ⟨z, hz⟩ : ∃ z, decide (0 ≤ Lib.indexByte l 32) = z := ⟨_, rfl⟩
      have HC := Lib.hid (show ∀ w1, Calls Tryz.prog 135 #[.string ⟨l.toArray⟩, .string ⟨#[32]⟩] w1 fun e w' => e = .returned (.bool z) ∧ w' = w1 from fun w1 => by
        have := Tryz.strings_Contains_one ⟨l.toArray⟩ 32 w1
        rw [← hz]
        exact this)
      have HE := Lib.hid (show isWord l = !z by simp [isWord, hp, H0.out, hz])
      clear hp hz
      go_enter Tryz.func72, Tryz.ntmps72
      go_wp2_with fail
      refine HP.out.mono ?_
      rintro e w1 ⟨rfl, hb⟩
      have HB := Lib.hid hb
      clear hb
      go_wp2_with fail
      refine (HC.out w1).mono ?_
      rintro e w2 ⟨rfl, rfl⟩
      go_wp2
      go_ret
      exact ⟨by rw [HE.out]; rfl, HB.out⟩
set_option maxRecDepth 100000 in
set_option maxHeartbeats 1000000 in
theorem name_any (l : List UInt8) (hl : l.length ≤ 9223372036854775807) (w : World) :
    Calls Tryz.prog 138 #[.string ⟨l.toArray⟩] w fun e w' => e = .returned (.bool (isName l)) ∧ Below w.heap.size w w' := by
  have HP := Lib.hid (token_any l hl w)
  cases ht : isTok l with
  | false =>
    rw [ht] at HP
    have HE := Lib.hid (show isName l = false by simp [isName, ht])
    clear ht
    go_enter Tryz.func138, Tryz.ntmps138
    go_wp2_with fail
    refine HP.out.mono ?_
    rintro e w1 ⟨rfl, hb⟩
    have HB := Lib.hid hb
    clear hb
    go_wp2
    go_ret
    exact ⟨by rw [HE.out]; rfl, HB.out⟩
  | true =>
    rw [ht] at HP
    have h0 : l ≠ [] := by
      intro h
      subst h
      cases ht
    obtain ⟨t, hts⟩ : ∃ t, Lib.trimS l smallL = t := ⟨_, rfl⟩
    have HC := Lib.hid (show ∀ w1, Calls Tryz.prog 134 #[.string ⟨l.toArray⟩, .string ⟨smallL.toArray⟩] w1 fun e w' => e = .returned (.string ⟨t.toArray⟩) ∧ Below w1.heap.size w1 w' from fun w1 => by
      rw [← hts]
      exact trim_any l smallL h0 hl (by decide) (by decide) small_ascii w1)
    have htn := trimS_nil l smallL
    rw [hts] at htn
    have HE := Lib.hid (show isName l = t.isEmpty by
      unfold isName
      rw [ht, Bool.true_and, Bool.eq_iff_iff, List.isEmpty_iff]
      exact htn.symm)
    clear ht hts htn
    go_enter Tryz.func138, Tryz.ntmps138
    go_wp2_with fail
    refine HP.out.mono ?_
    rintro e w1 ⟨rfl, hb⟩
    have HB := Lib.hid hb
    clear hb
    go_wp2_with fail
    refine (HC.out w1).mono ?_
    rintro e w2 ⟨rfl, hb2⟩
    have HB2 := Lib.hid (HB.out.trans (hb2.mono HB.out.size))
    clear hb2
    go_wp2
    go_ret
    exact ⟨by rw [HE.out]; rfl, HB2.out⟩
set_option maxRecDepth 100000 in
set_option maxHeartbeats 1000000 in
theorem own_any (l : List UInt8) (w : World) :
    Calls Tryz.prog 83 #[.string ⟨l.toArray⟩] w fun e w' => e = .returned (.bool (isOwn l)) ∧ w = w' := by
  obtain ⟨a, ha⟩ : ∃ a, (l == hostL) = a := ⟨_, rfl⟩
  obtain ⟨b, hb⟩ : ∃ b, (l == lengthL) = b := ⟨_, rfl⟩
  obtain ⟨c, hc⟩ : ∃ c, (l == codingL) = c := ⟨_, rfl⟩
  have HE := Lib.hid (show isOwn l = (a || (b || c)) by rw [← ha, ← hb, ← hc]; rfl)
  have ha' : (l == [104, 111, 115, 116]) = a := ha
  have hb' : (l == [108, 101, 110, 103, 116, 104]) = b := hb
  have hc' : (l == [99, 111, 100, 105, 110, 103]) = c := hc
  clear ha hb hc
  cases a <;> cases b <;> cases c <;> (go_enter Tryz.func83, Tryz.ntmps83; go_wp2; go_ret; exact ⟨by rw [HE.out]; rfl, rfl⟩)
end Go.Proofs.YtbgnggkgmeagkaaGreatDoor
namespace Go.Proofs.YtbgnggkgmeagkaaGreatDoor
open Go.RowKit

def longOk (l : List Fld) : Prop := ∀ f ∈ l, f.1.length ≤ 9223372036854775807 ∧ f.2.length ≤ 9223372036854775807
theorem below_set {B : Nat} {w w1 : World} (h : Below B w w1) {p : Addr} (hp : B ≤ p.block) (v : Value) : Below B w (w1.setCell p v) := h.setCell hp v

set_option maxRecDepth 100000 in
set_option maxHeartbeats 2000000 in
theorem fieldsE_any (l : List Fld) (hf : longOk l) (hm : l.length ≤ 140737488355328) (A : Option Addr) (n c : Nat) (hn : n = l.length) (w : World) (hr : Reads w w.heap.size 2 A l.length (fvs l)) :
    Calls Tryz.prog 74 #[.slice A n c] w fun e w' => e = .returned (errV (fldE l)) ∧ Below w.heap.size w w' := by
  subst hn
  have HR := Lib.hid hr
  have HF := Lib.hid hf
  clear hr hf
  go_enter Tryz.func74, Tryz.ntmps74
  go_wp2_with fail
  go_loopg [7] l.length (fun m i wr => ∃ k : Nat, m + k = l.length ∧ i = .int .i64 (k : Int) ∧ Hid (fldE l = fldE (l.drop k)) ∧ Hid (Below w.heap.size w wr))
  case atStart => exact ⟨0, rfl, rfl, rfl, Below.refl _ _⟩
  case round =>
    obtain ⟨k, hk, rfl, HE, HB⟩ := hrel
    by_cases hlt : k < l.length
    · obtain ⟨b, off, hA, hbB, hcl⟩ := reads_fld (HR.out.below HB.out) (by omega)
      subst hA
      obtain ⟨c0, c1⟩ := hcl k hlt
      obtain ⟨h1, h2⟩ := HF.out l[k] (List.getElem_mem hlt)
      have hd : l.drop k = l[k] :: l.drop (k + 1) := List.drop_eq_getElem_cons hlt
      obtain ⟨f, hfk⟩ : ∃ f, l[k] = f := ⟨_, rfl⟩
      rw [hfk] at c0 c1 h1 h2 hd
      have hE := HE.out
      rw [hd] at hE
      have HE2 := Lib.hid hE
      have hbw := Nat.lt_of_lt_of_le hbB HB.out.size
      have hki : ((k : Nat) : Int) < ((l.length : Nat) : Int) := by omega
      have HL1 := Lib.hid h1
      have HL2 := Lib.hid h2
      obtain ⟨f1, f2⟩ := f
      simp only at c0 c1 HL1 HL2
      have hba : Below w.heap.size w (wr.alloc (.cells #[.string ⟨f1.toArray⟩, .string ⟨f2.toArray⟩] 41)) := HB.out.alloc HB.out.size _
      have HBA := Lib.hid hba
      have q : ∀ w1, Below (wr.alloc (.cells #[.string ⟨f1.toArray⟩, .string ⟨f2.toArray⟩] 41)).heap.size (wr.alloc (.cells #[.string ⟨f1.toArray⟩, .string ⟨f2.toArray⟩] 41)) w1 → w1.cell? ⟨wr.heap.size, 0, none⟩ = some (.string ⟨f1.toArray⟩) ∧ w1.cell? ⟨wr.heap.size, 1, none⟩ = some (.string ⟨f2.toArray⟩) ∧ wr.heap.size < w1.heap.size ∧ Below w.heap.size w w1 := by
        intro w1 h
        have hs := h.size
        have hz : (wr.alloc (.cells #[.string ⟨f1.toArray⟩, .string ⟨f2.toArray⟩] 41)).heap.size = wr.heap.size + 1 := by simp
        have hb := Blk.new wr 41 #[.string ⟨f1.toArray⟩, .string ⟨f2.toArray⟩]
        have hb2 := hb.below h hb.lt
        exact ⟨hb2.cell 0, hb2.cell 1, by omega, hba.trans (h.mono hba.size)⟩
      have HQ := Lib.hid q
      clear hcl hd hE hfk h1 h2 HE hba hbB q
      cases hn : isName f1 with
      | false =>
        have HN := Lib.hid (show ∀ w1, Calls Tryz.prog 138 #[.string ⟨f1.toArray⟩] w1 fun e w' => e = .returned (.bool false) ∧ Below w1.heap.size w1 w' from fun w1 => by rw [← hn]; exact name_any f1 HL1.out w1)
        have HX := Lib.hid (show fldE l = 2 by rw [HE2.out]; simp [fldE, hn])
        clear hn
        go_wp2_with fail
        refine (HN.out _).mono ?_
        rintro e w1 ⟨rfl, hb1⟩
        have HQ1 := Lib.hid (HQ.out w1 hb1).2.2.2
        clear hb1
        go_wp2
        go_ret
        exact ⟨by rw [HX.out]; rfl, HQ1.out⟩
      | true =>
        have HN := Lib.hid (show ∀ w1, Calls Tryz.prog 138 #[.string ⟨f1.toArray⟩] w1 fun e w' => e = .returned (.bool true) ∧ Below w1.heap.size w1 w' from fun w1 => by rw [← hn]; exact name_any f1 HL1.out w1)
        cases hp : isPlain f2 with
        | false =>
          have HP := Lib.hid (show ∀ w1, Calls Tryz.prog 73 #[.string ⟨f2.toArray⟩] w1 fun e w' => e = .returned (.bool false) ∧ Below w1.heap.size w1 w' from fun w1 => by rw [← hp]; exact plain_any f2 HL2.out w1)
          have HX := Lib.hid (show fldE l = 2 by rw [HE2.out]; simp [fldE, hp])
          clear hn hp
          go_wp2_with fail
          refine (HN.out _).mono ?_
          rintro e w1 ⟨rfl, hb1⟩
          obtain ⟨d0, d1, dl, -⟩ := HQ.out w1 hb1
          have HB1 := Lib.hid hb1
          clear hb1
          go_wp2_with fail
          refine (HP.out _).mono ?_
          rintro e w2 ⟨rfl, hb2⟩
          have HQ1 := Lib.hid (HQ.out w2 (HB1.out.trans (hb2.mono HB1.out.size))).2.2.2
          clear hb2 d0 d1 dl
          go_wp2
          go_ret
          exact ⟨by rw [HX.out]; rfl, HQ1.out⟩
        | true =>
          have HP := Lib.hid (show ∀ w1, Calls Tryz.prog 73 #[.string ⟨f2.toArray⟩] w1 fun e w' => e = .returned (.bool true) ∧ Below w1.heap.size w1 w' from fun w1 => by rw [← hp]; exact plain_any f2 HL2.out w1)
          cases ho : isOwn f1 with
          | true =>
            have HO := Lib.hid (show ∀ w1, Calls Tryz.prog 83 #[.string ⟨f1.toArray⟩] w1 fun e w' => e = .returned (.bool true) ∧ w1 = w' from fun w1 => by rw [← ho]; exact own_any f1 w1)
            have HX := Lib.hid (show fldE l = 3 by rw [HE2.out]; simp [fldE, hn, hp, ho])
            clear hn hp ho
            go_wp2_with fail
            refine (HN.out _).mono ?_
            rintro e w1 ⟨rfl, hb1⟩
            obtain ⟨d0, d1, dl, -⟩ := HQ.out w1 hb1
            have HB1 := Lib.hid hb1
            clear hb1
            go_wp2_with fail
            refine (HP.out _).mono ?_
            rintro e w2 ⟨rfl, hb2⟩
            obtain ⟨d0, d1, dl, hq⟩ := HQ.out w2 (HB1.out.trans (hb2.mono HB1.out.size))
            have HQ1 := Lib.hid hq
            clear hb2 hq
            go_wp2_with fail
            refine (HO.out _).mono ?_
            rintro e w3 ⟨rfl, rfl⟩
            go_wp2
            go_ret
            exact ⟨by rw [HX.out]; rfl, HQ1.out⟩
          | false =>
            have HO := Lib.hid (show ∀ w1, Calls Tryz.prog 83 #[.string ⟨f1.toArray⟩] w1 fun e w' => e = .returned (.bool false) ∧ w1 = w' from fun w1 => by rw [← ho]; exact own_any f1 w1)
            have HX := Lib.hid (show fldE l = fldE (l.drop (k + 1)) by rw [HE2.out]; simp [fldE, hn, hp, ho])
            clear hn hp ho
            go_wp2_with fail
            refine (HN.out _).mono ?_
            rintro e w1 ⟨rfl, hb1⟩
            obtain ⟨d0, d1, dl, -⟩ := HQ.out w1 hb1
            have HB1 := Lib.hid hb1
            clear hb1
            go_wp2_with fail
            refine (HP.out _).mono ?_
            rintro e w2 ⟨rfl, hb2⟩
            obtain ⟨d0, d1, dl, hq⟩ := HQ.out w2 (HB1.out.trans (hb2.mono HB1.out.size))
            have HQ1 := Lib.hid hq
            clear hb2 hq
            go_wp2_with fail
            refine (HO.out _).mono ?_
            rintro e w3 ⟨rfl, rfl⟩
            go_wp2_with fail
            go_roundg (gk - 1)
            case measure => omega
            case rel => exact ⟨k + 1, by omega, by go_num, HX.out, HQ1.out⟩
    · have hkl : k = l.length := by omega
      have hE : fldE l = 0 := by
        rw [HE.out, hkl, List.drop_length]
        rfl
      have HX := Lib.hid hE
      have hki : ¬ ((k : Nat) : Int) < ((l.length : Nat) : Int) := by omega
      clear hE
      go_wp2
      go_ret
      exact ⟨by rw [HX.out]; rfl, HB.out⟩
end Go.Proofs.YtbgnggkgmeagkaaGreatDoor
namespace Go.Proofs.YtbgnggkgmeagkaaGreatDoor
open Go.RowKit

def askE (m p h : List UInt8) (fs : List Fld) (nb : Nat) : Nat :=
  if 40 < fs.length ∨ 8000 < nb then 4 else if isTok m = false then 2 else if isWord p = false then 2 else if h = [] then 2 else if isPlain h = false then 2 else fldE fs
abbrev reqV (m p h : List UInt8) (FA : Option Addr) (fn fc : Nat) (BA : Option Addr) (bn bc : Nat) : Array Value := #[.string ⟨m.toArray⟩, .string ⟨p.toArray⟩, .string ⟨h.toArray⟩, .slice FA fn fc, .slice BA bn bc]

set_option maxRecDepth 100000 in
set_option maxHeartbeats 1000000 in
theorem fullA_any (FA : Option Addr) (fn fc : Nat) (BA : Option Addr) (bn bc : Nat) (w : World) :
    Calls Tryz.prog 70 #[.slice FA fn fc, .slice BA bn bc] w fun e w' => e = .returned (.bool (decide (40 < fn ∨ 8000 < bn))) ∧ w = w' := by
  by_cases h1 : 40 < fn
  · have i1 : (40 : Int) < ((fn : Nat) : Int) := by omega
    have i2 := decide_eq_true i1
    have HX := Lib.hid (decide_eq_true (show 40 < fn ∨ 8000 < bn from .inl h1))
    go_enter Tryz.func70, Tryz.ntmps70
    go_wp2
    go_ret
    exact ⟨by first | rfl | (rw [HX.out]; rfl), rfl⟩
  · have i1 : ¬ (40 : Int) < ((fn : Nat) : Int) := by omega
    have i2 := decide_eq_false i1
    by_cases h2 : 8000 < bn
    · have i3 : (8000 : Int) < ((bn : Nat) : Int) := by omega
      have i4 := decide_eq_true i3
      have HX := Lib.hid (decide_eq_true (show 40 < fn ∨ 8000 < bn from .inr h2))
      go_enter Tryz.func70, Tryz.ntmps70
      go_wp2
      go_ret
      exact ⟨by first | rfl | (rw [HX.out]; rfl), rfl⟩
    · have i3 : ¬ (8000 : Int) < ((bn : Nat) : Int) := by omega
      have i4 := decide_eq_false i3
      have HX := Lib.hid (decide_eq_false (show ¬ (40 < fn ∨ 8000 < bn) by omega))
      go_enter Tryz.func70, Tryz.ntmps70
      go_wp2
      go_ret
      exact ⟨by first | rfl | (rw [HX.out]; rfl), rfl⟩
set_option maxRecDepth 100000 in
set_option maxHeartbeats 2000000 in
theorem checkAsk_any (m p h : List UInt8) (fs : List Fld) (hm : m.length ≤ 9223372036854775807) (hp : p.length ≤ 9223372036854775807) (hh : h.length ≤ 9223372036854775807) (hf : longOk fs) (hfl : fs.length ≤ 140737488355328) (FA : Option Addr) (fn fc : Nat) (hfn : fn = fs.length) (BA : Option Addr) (bn bc : Nat) (w : World) (hr : Reads w w.heap.size 2 FA fs.length (fvs fs)) :
    Calls Tryz.prog 26 #[.agg (reqV m p h FA fn fc BA bn bc)] w fun e w' => e = .returned (errV (askE m p h fs bn)) ∧ Below w.heap.size w w' := by
  subst hfn
  obtain ⟨W, hW⟩ : ∃ W, w.alloc (.cells (reqV m p h FA fs.length fc BA bn bc) 25) = W := ⟨_, rfl⟩
  have q : ∀ w1, Below W.heap.size W w1 → w1.cell? ⟨w.heap.size, 0, none⟩ = some (.string ⟨m.toArray⟩) ∧ w1.cell? ⟨w.heap.size, 1, none⟩ = some (.string ⟨p.toArray⟩) ∧ w1.cell? ⟨w.heap.size, 2, none⟩ = some (.string ⟨h.toArray⟩) ∧ w1.cell? ⟨w.heap.size, 3, none⟩ = some (.slice FA fs.length fc) ∧ w1.cell? ⟨w.heap.size, 4, none⟩ = some (.slice BA bn bc) ∧ w.heap.size < w1.heap.size ∧ Below w.heap.size w w1 := by
    intro w1 h1
    rw [← hW] at h1
    have hb := Blk.new w 25 (reqV m p h FA fs.length fc BA bn bc)
    have hb2 := hb.below h1 hb.lt
    have hba : Below w.heap.size w (w.alloc (.cells (reqV m p h FA fs.length fc BA bn bc) 25)) := (Below.refl _ _).alloc (Nat.le_refl _) _
    exact ⟨hb2.cell 0, hb2.cell 1, hb2.cell 2, hb2.cell 3, hb2.cell 4, hb2.lt, hba.trans (h1.mono hba.size)⟩
  have HQ := Lib.hid q
  have HR := Lib.hid hr
  have HM := Lib.hid hm
  have HP := Lib.hid hp
  have HH := Lib.hid hh
  have HF := Lib.hid hf
  have HFL := Lib.hid hfl
  obtain ⟨d0, d1, d2, d3, d4, dl, -⟩ := q W (Below.refl _ _)
  clear q hr hm hp hh hf hfl
  have HW := Lib.hid hW
  have HBW := Lib.hid (HQ.out W (Below.refl _ _)).2.2.2.2.2.2
  go_enter Tryz.func26, Tryz.ntmps26
  go_upto_region 1 with fail
  clear hW
  by_cases h4 : 40 < fs.length ∨ 8000 < bn
  · have HX := Lib.hid (show askE m p h fs bn = 4 by unfold askE; rw [if_pos h4])
    have HD := Lib.hid (decide_eq_true h4)
    clear h4
    go_wp2_with fail
    refine (fullA_any _ _ _ _ _ _ _).mono ?_
    rintro e w1 ⟨rfl, rfl⟩
    rw [HD.out]
    go_wp2
    go_ret
    exact ⟨by rw [HX.out]; rfl, HBW.out⟩
  · have HD := Lib.hid (decide_eq_false h4)
    go_wp2_with fail
    refine (fullA_any _ _ _ _ _ _ _).mono ?_
    rintro e w1 ⟨rfl, rfl⟩
    rw [HD.out]
    cases ht : isTok m with
    | false =>
      have HX := Lib.hid (show askE m p h fs bn = 2 by unfold askE; rw [if_neg h4, if_pos ht])
      have HT := Lib.hid (show Calls Tryz.prog 71 #[.string ⟨m.toArray⟩] W fun e w' => e = .returned (.bool false) ∧ Below W.heap.size W w' from by rw [← ht]; exact token_any m HM.out W)
      clear h4 ht
      go_wp2_with fail
      refine HT.out.mono ?_
      rintro e w1 ⟨rfl, hb1⟩
      have HB1 := Lib.hid (HQ.out w1 hb1).2.2.2.2.2.2
      clear hb1
      go_wp2
      go_ret
      exact ⟨by rw [HX.out]; rfl, HB1.out⟩
    | true =>
      have HT := Lib.hid (show Calls Tryz.prog 71 #[.string ⟨m.toArray⟩] W fun e w' => e = .returned (.bool true) ∧ Below W.heap.size W w' from by rw [← ht]; exact token_any m HM.out W)
      cases hwd : isWord p with
      | false =>
        have HX := Lib.hid (show askE m p h fs bn = 2 by unfold askE; rw [if_neg h4, if_neg (by rw [ht]; decide), if_pos hwd])
        have HWD := Lib.hid (show ∀ w1, Calls Tryz.prog 72 #[.string ⟨p.toArray⟩] w1 fun e w' => e = .returned (.bool false) ∧ Below w1.heap.size w1 w' from fun w1 => by rw [← hwd]; exact word_any p HP.out w1)
        clear h4 ht hwd
        go_wp2_with fail
        refine HT.out.mono ?_
        rintro e w1 ⟨rfl, hb1⟩
        have HB1 := Lib.hid hb1
        obtain ⟨d0, d1, d2, d3, d4, dl, -⟩ := HQ.out w1 hb1
        clear hb1
        go_wp2_with fail
        refine (HWD.out w1).mono ?_
        rintro e w2 ⟨rfl, hb2⟩
        have HB2 := Lib.hid (HQ.out w2 (HB1.out.trans (hb2.mono HB1.out.size))).2.2.2.2.2.2
        clear hb2
        go_wp2
        go_ret
        exact ⟨by rw [HX.out]; rfl, HB2.out⟩
      | true =>
        have HWD := Lib.hid (show ∀ w1, Calls Tryz.prog 72 #[.string ⟨p.toArray⟩] w1 fun e w' => e = .returned (.bool true) ∧ Below w1.heap.size w1 w' from fun w1 => by rw [← hwd]; exact word_any p HP.out w1)
        by_cases h0 : h = []
        · have HX := Lib.hid (show askE m p h fs bn = 2 by unfold askE; rw [if_neg h4, if_neg (by rw [ht]; decide), if_neg (by rw [hwd]; decide), if_pos h0])
          have e0 : h.isEmpty = true := by simpa using h0
          clear h4 ht hwd h0
          go_wp2_with fail
          refine HT.out.mono ?_
          rintro e w1 ⟨rfl, hb1⟩
          have HB1 := Lib.hid hb1
          obtain ⟨d0, d1, d2, d3, d4, dl, -⟩ := HQ.out w1 hb1
          clear hb1
          go_wp2_with fail
          refine (HWD.out w1).mono ?_
          rintro e w2 ⟨rfl, hb2⟩
          obtain ⟨d0, d1, d2, d3, d4, dl, hq⟩ := HQ.out w2 (HB1.out.trans (hb2.mono HB1.out.size))
          have HB2 := Lib.hid hq
          clear hb2 hq
          go_wp2
          go_ret
          exact ⟨by rw [HX.out]; rfl, HB2.out⟩
        · have e0 : h.isEmpty = false := by simpa using h0
          cases hpl : isPlain h with
          | false =>
            have HX := Lib.hid (show askE m p h fs bn = 2 by unfold askE; rw [if_neg h4, if_neg (by rw [ht]; decide), if_neg (by rw [hwd]; decide), if_neg h0, if_pos hpl])
            have HPL := Lib.hid (show ∀ w1, Calls Tryz.prog 73 #[.string ⟨h.toArray⟩] w1 fun e w' => e = .returned (.bool false) ∧ Below w1.heap.size w1 w' from fun w1 => by rw [← hpl]; exact plain_any h HH.out w1)
            clear h4 ht hwd h0 hpl
            go_wp2_with fail
            refine HT.out.mono ?_
            rintro e w1 ⟨rfl, hb1⟩
            have HB1 := Lib.hid hb1
            obtain ⟨d0, d1, d2, d3, d4, dl, -⟩ := HQ.out w1 hb1
            clear hb1
            go_wp2_with fail
            refine (HWD.out w1).mono ?_
            rintro e w2 ⟨rfl, hb2⟩
            have HB2 := Lib.hid (HB1.out.trans (hb2.mono HB1.out.size))
            obtain ⟨d0, d1, d2, d3, d4, dl, -⟩ := HQ.out w2 HB2.out
            clear hb2
            go_wp2_with fail
            refine (HPL.out w2).mono ?_
            rintro e w3 ⟨rfl, hb3⟩
            have HB3 := Lib.hid (HQ.out w3 (HB2.out.trans (hb3.mono HB2.out.size))).2.2.2.2.2.2
            clear hb3
            go_wp2
            go_ret
            exact ⟨by rw [HX.out]; rfl, HB3.out⟩
          | true =>
            have HX := Lib.hid (show askE m p h fs bn = fldE fs by unfold askE; rw [if_neg h4, if_neg (by rw [ht]; decide), if_neg (by rw [hwd]; decide), if_neg h0, if_neg (by rw [hpl]; decide)])
            have HPL := Lib.hid (show ∀ w1, Calls Tryz.prog 73 #[.string ⟨h.toArray⟩] w1 fun e w' => e = .returned (.bool true) ∧ Below w1.heap.size w1 w' from fun w1 => by rw [← hpl]; exact plain_any h HH.out w1)
            clear h4 ht hwd h0 hpl
            go_wp2_with fail
            refine HT.out.mono ?_
            rintro e w1 ⟨rfl, hb1⟩
            have HB1 := Lib.hid hb1
            obtain ⟨d0, d1, d2, d3, d4, dl, -⟩ := HQ.out w1 hb1
            clear hb1
            go_wp2_with fail
            refine (HWD.out w1).mono ?_
            rintro e w2 ⟨rfl, hb2⟩
            have HB2 := Lib.hid (HB1.out.trans (hb2.mono HB1.out.size))
            obtain ⟨d0, d1, d2, d3, d4, dl, -⟩ := HQ.out w2 HB2.out
            clear hb2
            go_wp2_with fail
            refine (HPL.out w2).mono ?_
            rintro e w3 ⟨rfl, hb3⟩
            have HB3 := Lib.hid (HB2.out.trans (hb3.mono HB2.out.size))
            obtain ⟨d0, d1, d2, d3, d4, dl, hq⟩ := HQ.out w3 HB3.out
            have HB0 := Lib.hid hq
            clear hb3 hq
            go_wp2_with fail
            refine (fieldsE_any fs HF.out HFL.out FA _ fc rfl w3 ((HR.out.below HB0.out).more HB0.out.size)).mono ?_
            rintro e w4 ⟨rfl, hb4⟩
            have HB4 := Lib.hid (HB0.out.trans (hb4.mono HB0.out.size))
            clear hb4
            go_wp2
            go_ret
            exact ⟨by rw [HX.out]; rfl, HB4.out⟩
end Go.Proofs.YtbgnggkgmeagkaaGreatDoor
