/-
  strings.Builder in this program: WriteString, String. Condition: the bound on the bytes.
  The lines of fields, as a text. Condition: there are at most 40 fields, and no text of theirs is longer than 400.
  line's tests of one byte. No condition.
  chunk.Match, where the text stands. Condition: the bound on the bytes.
  line's reader: match, where the text stands. Condition: the bound on the bytes.
-/
import Derived.Test.YtbgnggkgmeagkaaGreatDoorMTopLines01
import Derived.Test.YtbgnggkgmeagkaaGreatDoorShelf
import Derived.Test.YtbgnggkgmeagkaaGreatDoorMTopLines18
import Derived.Deep.LoopGhost
import Derived.Deep.CutRange
import Derived.BigRegion
import Derived.RegionTactic
import Derived.Deep.RegionWith
set_option linter.unusedSimpArgs false
set_option linter.unusedVariables false
namespace Go.Proofs.YtbgnggkgmeagkaaGreatDoor
open Go.RowKit

/-- A builder that holds the bytes l. -/
def IsB (B b : Nat) (l : List UInt8) (w : World) : Prop := B ≤ b ∧ ∃ p v, (p = .pointer none ∨ p = .pointer (some ⟨b, 0, none⟩)) ∧ Blk w b 160 #[p, v] ∧ w.ownsRow B 5 1 v l.length (bs l)
theorem isB_new (w : World) : IsB w.heap.size w.heap.size [] (w.alloc (.cells #[.pointer none, .slice none 0 0] 160)) :=
  ⟨Nat.le_refl _, .pointer none, .slice none 0 0, .inl rfl, Blk.new w _ _, World.ownsRow_nil _ _ _ _⟩
theorem IsB.alloc {B b : Nat} {l : List UInt8} {w : World} (h : IsB B b l w) (o : Obj) : IsB B b l (w.alloc o) := by
  obtain ⟨h1, p, v, h2, h3, h4⟩ := h
  exact ⟨h1, p, v, h2, h3.below ((Below.refl _ _).alloc (Nat.le_refl _) o) h3.lt, h4.alloc o⟩
set_option maxRecDepth 100000 in
set_option maxHeartbeats 1000000 in
theorem bcopy_any {b : Nat} {p v : Value} {w : World} (hp : p = .pointer none ∨ p = .pointer (some ⟨b, 0, none⟩)) (hb : Blk w b 160 #[p, v]) :
    Calls Tryz.prog 139 #[.pointer (some ⟨b, 0, none⟩)] w fun e w' => e = .returned (.tuple #[]) ∧ (w' = w ∨ w' = w.setCell ⟨b, 0, none⟩ (.pointer (some ⟨b, 0, none⟩))) ∧ Blk w' b 160 #[.pointer (some ⟨b, 0, none⟩), v] := by
  have c0 := hb.cell 0
  have f0 := hb.frozen 0
  have hl := hb.lt
  have hs := hb.set_ 0 (.pointer (some ⟨b, 0, none⟩))
  have HS := Lib.hid hs
  have HB := Lib.hid hb
  clear hs hb
  obtain ⟨j, hj, hjs⟩ := Option.map_eq_some_iff.1 (show (Tryz.prog.info? 160).map (·.size) = some 2 by kernel_rfl)
  have HJ := Lib.hid hj
  have HJS := Lib.hid hjs
  clear hj hjs
  rcases hp with rfl | rfl
  · have sh : w.shape? b = some (160, 2) := by
      have := HB.out
      unfold Blk at this
      unfold World.shape?
      rw [this]
      rfl
    have SH := Lib.hid sh
    clear sh
    go_enter Tryz.func139, Tryz.ntmps139
    go_wp2
    rw [Lib.run_to_unsafe w ⟨b, 0, none⟩ Tryz.underlying158 Tryz.underlying286 HJ.out (by rw [HJS.out]; decide) SH.out (Nat.zero_lt_succ 1)]
    simp only [Result.andThen]
    rw [Oper.upon_value]
    go_wp2
    rw [run_callFunc_extern Tryz.func196 (by kernel_rfl) (by kernel_rfl) (by kernel_rfl) (e := Extern.AbiNoEscape.same) (by kernel_rfl)]
    rw [Lib.run_noEscape]
    simp only [Result.andThen]
    rw [Oper.upon_value]
    go_wp2
    rw [Lib.run_from_unsafe w ⟨b, 0, none⟩ Tryz.underlying286 Tryz.underlying158 HJ.out SH.out (by kernel_rfl)]
    simp only [Result.andThen]
    rw [Oper.upon_value]
    go_wp2
    go_end0
    exact ⟨rfl, .inr rfl, by simpa using HS.out⟩
  · go_enter Tryz.func139, Tryz.ntmps139
    go_wp2
    rw [Lib.run_neq_ptr_same w _ Tryz.underlying158 HJ.out]
    go_wp2
    go_end0
    exact ⟨rfl, .inl rfl, HB.out⟩
set_option maxRecDepth 100000 in
set_option maxHeartbeats 1000000 in
theorem isB_write {B b : Nat} {l s : List UInt8} {w : World} (h : IsB B b l w) (hl : l.length + s.length ≤ 140737488355328) (hB : B ≤ w.heap.size) :
    Calls Tryz.prog 75 #[.pointer (some ⟨b, 0, none⟩), .string ⟨s.toArray⟩] w fun e w' => (∃ v, e = .returned v) ∧ IsB B b (l ++ s) w' ∧ Below B w w' := by
  obtain ⟨i0, hi, hz0, hz1, hz2⟩ := info_parts u8_info
  obtain ⟨hBb, p, v, hp, hb, hown⟩ := h
  have HI := Lib.hid hi
  have HZ0 := Lib.hid hz0
  have HZ1 := Lib.hid hz1
  have HZ2 := Lib.hid hz2
  have HC := Lib.hid (bcopy_any hp hb)
  have HO := Lib.hid hown
  have hne := own_blk_ne hown hb (by decide)
  have HN := Lib.hid hne
  clear hi hz0 hz1 hz2 hp hb hown hne
  go_enter Tryz.func75, Tryz.ntmps75
  go_wp2_with fail
  refine HC.out.mono ?_
  rintro e w1 ⟨rfl, hw1, hb1⟩
  have hbb1 : Below B w w1 := by
    rcases hw1 with rfl | rfl
    · exact Below.refl _ _
    · exact (Below.refl B w).setCell (p := ⟨b, 0, none⟩) hBb _
  have hown1 : w1.ownsRow B 5 1 v l.length (bs l) := by
    rcases hw1 with rfl | rfl
    · exact HO.out
    · exact HO.out.kept (row := some b) ⟨rfl, rfl, rfl, by simp [World.setCell], fun k _ hk => Below.heap_setCell _ _ _ _ (fun e => hk (by simp [e]))⟩ (.inr HN.out)
  have c1 := hb1.cell 1
  have hl1 := hb1.lt
  have HB1 := Lib.hid hb1
  have HO1 := Lib.hid hown1
  have HBB := Lib.hid hbb1
  clear hw1 hb1 hown1 hbb1
  have hsz : (ByteArray.mk s.toArray).size = s.length := rfl
  go_wp2_with (at_builtin; refine Lib.wpList_append_own_string _ rfl _ _ 23 9 rfl B 5 i0 Tryz.underlying23 Tryz.underlying9 HI.out HZ0.out HZ1.out HZ2.out _ _ _ rfl HO1.out ⟨s.toArray⟩ rfl (by rw [hsz]; unfold maxLen; omega) (by rw [hsz]; omega) (Nat.le_trans hB HBB.out.size) ?_; intro v2 w2 hown2 hg2 _; have hb2 : Blk w2 b 160 #[.pointer (some ⟨b, 0, none⟩), v] := (show w2.heap[b]? = _ from (hg2.block b HB1.out.lt (fun e => HN.out e.symm)).trans HB1.out); have c1 := hb2.cell 1; have f1 := hb2.frozen 1; have hl2 := hb2.lt; have HB2 := Lib.hid hb2; have HO2 := Lib.hid hown2; have HG2 := Lib.hid hg2; obtain ⟨A2, cc2, rfl⟩ : ∃ A2 cc2, v2 = .slice A2 (l.length + (ByteArray.mk s.toArray).size) cc2 := (by rcases hown2.2 with ⟨hv, h0⟩ | ⟨g, cap, cur, hv, _⟩; exact ⟨none, 0, by rw [hv, h0]⟩; exact ⟨_, _, hv⟩); clear hb2 hown2 hg2)
  go_ret2
  have hsz2 : (l ++ s).length = l.length + s.length := List.length_append
  refine ⟨⟨_, rfl⟩, ⟨hBb, .pointer (some ⟨b, 0, none⟩), .slice A2 (l.length + s.length) cc2, .inr rfl, ?_, ?_⟩, ?_⟩
  · have := HB2.out.set_ 1 (.slice A2 (l.length + s.length) cc2)
    simpa using this
  · have h9 : w2.ownsRow B 5 1 (.slice A2 (l.length + s.length) cc2) (l ++ s).length (bs (l ++ s)) := by
      rw [hsz2, bs_append]
      exact HO2.out
    have hne2 := own_blk_ne h9 HB2.out (by decide)
    exact h9.kept (row := some b) ⟨rfl, rfl, rfl, by simp [World.setCell], fun k _ hk => Below.heap_setCell _ _ _ _ (fun e => hk (by simp [e]))⟩ (.inr hne2)
  · exact (below_append HBB.out HO1.out HG2.out (Nat.le_trans hB HBB.out.size)).setCell (p := ⟨b, 1, none⟩) hBb _
theorem isB_string {B b : Nat} {l : List UInt8} {w : World} (h : IsB B b l w) (hB : B ≤ w.heap.size) :
    Calls Tryz.prog 76 #[.pointer (some ⟨b, 0, none⟩)] w fun e w' => e = .returned (.string ⟨l.toArray⟩) ∧ Below B w w' := by
  obtain ⟨h1, p, v, h2, h3, h4⟩ := h
  have hne := own_blk_ne h4 h3 (by decide)
  have hb : Lib.BuilderAt 160 5 B b p (Lib.byteCells l) w := ⟨h1, v, h3, by rw [Lib.byteCells_length]; exact h4, hne⟩
  exact Tryz.Builder_String_any B b l w (by rcases h2 with rfl | rfl; exact .inl hb; exact .inr hb) hB
end Go.Proofs.YtbgnggkgmeagkaaGreatDoor
namespace Go.Proofs.YtbgnggkgmeagkaaGreatDoor
open Go.RowKit

def lineL (f : Fld) : List UInt8 := f.1 ++ [58, 32] ++ f.2 ++ [13, 10]
def linesL : List Fld → List UInt8
  | [] => []
  | f :: l => lineL f ++ linesL l
theorem linesL_append (a b : List Fld) : linesL (a ++ b) = linesL a ++ linesL b := by
  induction a with
  | nil => rfl
  | cons f a ih => rw [List.cons_append, linesL, linesL, ih, List.append_assoc]
theorem linesL_take (l : List Fld) {k : Nat} (h : k < l.length) : linesL (l.take (k + 1)) = linesL (l.take k) ++ lineL l[k] := by
  rw [List.take_succ_eq_append_getElem h, linesL_append]
  simp [linesL]
def shortOk (l : List Fld) : Prop := l.length ≤ 40 ∧ ∀ f ∈ l, f.1.length ≤ 400 ∧ f.2.length ≤ 400
theorem lineL_len (f : Fld) : (lineL f).length = f.1.length + f.2.length + 4 := by simp [lineL]; omega
theorem linesL_len : ∀ (l : List Fld), (∀ f ∈ l, f.1.length ≤ 400 ∧ f.2.length ≤ 400) → (linesL l).length ≤ 804 * l.length
  | [], _ => by simp [linesL]
  | f :: l, h => by
    have h1 := linesL_len l fun x hx => h x (List.mem_cons_of_mem _ hx)
    have h2 := h f (List.mem_cons_self ..)
    rw [linesL, List.length_append, lineL_len, List.length_cons]
    omega
theorem line_cat (f1 f2 : List UInt8) : ((ByteArray.mk f1.toArray ++ ByteArray.mk #[58, 32]) ++ ByteArray.mk f2.toArray) ++ ByteArray.mk #[13, 10] = ⟨(lineL (f1, f2)).toArray⟩ := by
  have e1 : (ByteArray.mk #[58, 32]) = ⟨([58, 32] : List UInt8).toArray⟩ := rfl
  have e2 : (ByteArray.mk #[13, 10]) = ⟨([13, 10] : List UInt8).toArray⟩ := rfl
  rw [e1, e2, ByteArray.mk_append_mk, ByteArray.mk_append_mk, ByteArray.mk_append_mk]
  rfl

set_option maxRecDepth 100000 in
set_option maxHeartbeats 2000000 in
theorem lines_any (l : List Fld) (hl : shortOk l) (A : Option Addr) (n c : Nat) (hn : n = l.length) (w : World) (hr : Reads w w.heap.size 2 A l.length (fvs l)) :
    Calls Tryz.prog 27 #[.slice A n c] w fun e w' => e = .returned (.string ⟨(linesL l).toArray⟩) ∧ Below w.heap.size w w' := by
  subst hn
  have HR := Lib.hid hr
  have HS := Lib.hid hl
  have HL40 := hl.1
  have HN := Lib.hid (isB_new w)
  have HBN := Lib.hid (show Below w.heap.size w (w.alloc (.cells #[.pointer none, .slice none 0 0] 160)) from (Below.refl _ _).alloc (Nat.le_refl _) _)
  clear hr hl
  go_enter Tryz.func27, Tryz.ntmps27
  go_wp2_with fail
  go_loopg [8] l.length (fun m i wr => ∃ k : Nat, m + k = l.length ∧ i = .int .i64 (k : Int) ∧ Hid (IsB w.heap.size w.heap.size (linesL (l.take k)) wr) ∧ Hid (Below w.heap.size w wr))
  case atStart => exact ⟨0, rfl, rfl, HN.out, HBN.out⟩
  case round =>
    clear HN HBN
    obtain ⟨k, hk, rfl, HI, HB⟩ := hrel
    by_cases hlt : k < l.length
    · obtain ⟨b, off, hA, hbB, hcl⟩ := reads_fld (HR.out.below HB.out) (by omega)
      subst hA
      obtain ⟨c0, c1⟩ := hcl k hlt
      have hlen := linesL_len (l.take k) fun f hf => HS.out.2 f (List.mem_of_mem_take hf)
      have htk : (l.take k).length ≤ k := by rw [List.length_take]; omega
      have hsh := HS.out.2 l[k] (List.getElem_mem hlt)
      have htl := linesL_take l hlt
      obtain ⟨f, hfk⟩ : ∃ f, l[k] = f := ⟨_, rfl⟩
      rw [hfk] at c0 c1 hsh htl
      have hbw := Nat.lt_of_lt_of_le hbB HB.out.size
      have hki : ((k : Nat) : Int) < ((l.length : Nat) : Int) := by omega
      obtain ⟨f1, f2⟩ := f
      simp only at c0 c1 hsh
      obtain ⟨hs1, hs2⟩ := hsh
      have HTL := Lib.hid htl
      have HBA := Lib.hid (show Below w.heap.size w (wr.alloc (.cells #[.string ⟨f1.toArray⟩, .string ⟨f2.toArray⟩] 41)) from HB.out.alloc HB.out.size _)
      have HWR := Lib.hid (isB_write (s := lineL (f1, f2)) (HI.out.alloc (.cells #[.string ⟨f1.toArray⟩, .string ⟨f2.toArray⟩] 41)) (by rw [lineL_len]; simp only; omega) HBA.out.size)
      clear hcl hbB hfk htl hlen htk HI
      go_wp2_with fail
      rw [line_cat]
      refine HWR.out.mono ?_
      rintro e w1 ⟨⟨v, rfl⟩, hI1, hb1⟩
      have HI1 := Lib.hid hI1
      have HB1 := Lib.hid (HBA.out.trans hb1)
      clear hI1 hb1
      go_wp2_with fail
      go_roundg (gk - 1)
      case measure => omega
      case rel => exact ⟨k + 1, by omega, by go_num, by rw [HTL.out]; exact HI1.out, HB1.out⟩
    · have hkl : k = l.length := by omega
      have HI2 := Lib.hid (show IsB w.heap.size w.heap.size (linesL l) wr by have h := HI.out; rwa [hkl, List.take_length] at h)
      have hki : ¬ ((k : Nat) : Int) < ((l.length : Nat) : Int) := by omega
      go_wp2_with fail
      refine (isB_string HI2.out HB.out.size).mono ?_
      rintro e w1 ⟨rfl, hb1⟩
      have HB1 := Lib.hid (HB.out.trans hb1)
      clear hb1
      go_wp2
      go_ret
      exact ⟨rfl, HB1.out⟩
end Go.Proofs.YtbgnggkgmeagkaaGreatDoor
namespace Go.Proofs.YtbgnggkgmeagkaaGreatDoor
open Go.RowKit

theorem indexByte_mem (l : List UInt8) (c : UInt8) : decide (0 ≤ Lib.indexByte l c) = l.contains c := by
  induction l with
  | nil => rfl
  | cons b l ih =>
    have hg := Lib.indexByte_ge l c
    unfold Lib.indexByte
    by_cases h : b = c
    · subst h
      simp
    · have h1 : (b == c) = false := beq_eq_false_iff_ne.2 h
      have h3 : (c == b) = false := beq_eq_false_iff_ne.2 fun e => h e.symm
      rw [if_neg (by rw [h1]; decide), List.contains_cons, h3, Bool.false_or, ← ih]
      by_cases h2 : Lib.indexByte l c = -1
      · rw [if_pos (by rw [h2]; rfl), h2]
      · rw [if_neg (by simpa using h2)]
        rw [Bool.eq_iff_iff, decide_eq_true_iff, decide_eq_true_iff]
        omega
theorem indexB_any (l : List UInt8) (c : UInt8) (w : World) :
    Calls Tryz.prog 78 #[.string ⟨l.toArray⟩, .int .u8 ((c.toNat : Nat) : Int)] w fun e w' => e = .returned (.int .i64 (Lib.indexByte l c)) ∧ w = w' := by
  refine (Tryz.strings_IndexByte ⟨l.toArray⟩ ((c.toNat : Nat) : Int) w).mono ?_
  rintro e w' ⟨he, hw⟩
  refine ⟨?_, hw.symm⟩
  have : (((c.toNat : Nat) : Int).toNat).toUInt8 = c := by simp
  rw [this] at he
  exact he
set_option maxRecDepth 100000 in
set_option maxHeartbeats 1000000 in
theorem token1_any (c : UInt8) (w : World) : Calls Tryz.prog 30 #[.int .u8 ((c.toNat : Nat) : Int)] w fun e w' => e = .returned (.bool (tokL.contains c)) ∧ w = w' := by
  have HI := Lib.hid (indexB_any tokL c w)
  have HE := Lib.hid (indexByte_mem tokL c)
  go_enter Tryz.func30, Tryz.ntmps30
  go_wp2_with fail
  refine HI.out.mono ?_
  rintro e w1 ⟨rfl, rfl⟩
  go_wp2
  go_ret
  exact ⟨by rw [← HE.out]; rfl, rfl⟩
set_option maxRecDepth 100000 in
set_option maxHeartbeats 1000000 in
theorem letter1_any (c : UInt8) (w : World) : Calls Tryz.prog 81 #[.int .u8 ((c.toNat : Nat) : Int)] w fun e w' => e = .returned (.bool (smallL.contains c)) ∧ w = w' := by
  have HI := Lib.hid (indexB_any smallL c w)
  have HE := Lib.hid (indexByte_mem smallL c)
  go_enter Tryz.func81, Tryz.ntmps81
  go_wp2_with fail
  refine HI.out.mono ?_
  rintro e w1 ⟨rfl, rfl⟩
  go_wp2
  go_ret
  exact ⟨by rw [← HE.out]; rfl, rfl⟩
def visB (c : UInt8) : Bool := decide (32 < c.toNat) && decide (c.toNat ≤ 126)
set_option maxRecDepth 100000 in
set_option maxHeartbeats 1000000 in
theorem visible1_any (c : UInt8) (w : World) : Calls Tryz.prog 33 #[.int .u8 ((c.toNat : Nat) : Int)] w fun e w' => e = .returned (.bool (visB c)) ∧ w = w' := by
  obtain ⟨n, hn⟩ : ∃ n, c.toNat = n := ⟨_, rfl⟩
  have hs : visB c = (decide (32 < n) && decide (n ≤ 126)) := by rw [← hn]; rfl
  have HS := Lib.hid hs
  rw [hn]
  clear hs hn
  by_cases h1 : 32 < n
  · have i1 : (32 : Int) < ((n : Nat) : Int) := by omega
    have i2 := decide_eq_true i1
    have e1 := decide_eq_true h1
    by_cases h2 : n ≤ 126
    · have i3 : ((n : Nat) : Int) ≤ 126 := by omega
      have i4 := decide_eq_true i3
      have HX := Lib.hid (show visB c = true by rw [HS.out, e1, decide_eq_true h2]; rfl)
      go_enter Tryz.func33, Tryz.ntmps33
      go_wp2
      go_ret
      exact ⟨by rw [HX.out]; rfl, rfl⟩
    · have i3 : ¬ ((n : Nat) : Int) ≤ 126 := by omega
      have i4 := decide_eq_false i3
      have HX := Lib.hid (show visB c = false by rw [HS.out, decide_eq_false h2, Bool.and_false])
      go_enter Tryz.func33, Tryz.ntmps33
      go_wp2
      go_ret
      exact ⟨by rw [HX.out]; rfl, rfl⟩
  · have i1 : ¬ (32 : Int) < ((n : Nat) : Int) := by omega
    have i2 := decide_eq_false i1
    have HX := Lib.hid (show visB c = false by rw [HS.out, decide_eq_false h1, Bool.false_and])
    go_enter Tryz.func33, Tryz.ntmps33
    go_wp2
    go_ret
    exact ⟨by rw [HX.out]; rfl, rfl⟩
set_option maxRecDepth 100000 in
set_option maxHeartbeats 1000000 in
theorem plainb_any (c : UInt8) (w : World) : Calls Tryz.prog 80 #[.int .u8 ((c.toNat : Nat) : Int)] w fun e w' => e = .returned (.bool (seen c)) ∧ w = w' := by
  obtain ⟨n, hn⟩ : ∃ n, c.toNat = n := ⟨_, rfl⟩
  have hs : seen c = (decide (32 ≤ n) && decide (n ≤ 126)) := by rw [← hn]; rfl
  have HS := Lib.hid hs
  rw [hn]
  clear hs hn
  by_cases h1 : 32 ≤ n
  · have i1 : (32 : Int) ≤ ((n : Nat) : Int) := by omega
    have i2 := decide_eq_true i1
    have e1 := decide_eq_true h1
    by_cases h2 : n ≤ 126
    · have i3 : ((n : Nat) : Int) ≤ 126 := by omega
      have i4 := decide_eq_true i3
      have HX := Lib.hid (show seen c = true by rw [HS.out, e1, decide_eq_true h2]; rfl)
      go_enter Tryz.func80, Tryz.ntmps80
      go_wp2
      go_ret
      exact ⟨by rw [HX.out]; rfl, rfl⟩
    · have i3 : ¬ ((n : Nat) : Int) ≤ 126 := by omega
      have i4 := decide_eq_false i3
      have HX := Lib.hid (show seen c = false by rw [HS.out, decide_eq_false h2, Bool.and_false])
      go_enter Tryz.func80, Tryz.ntmps80
      go_wp2
      go_ret
      exact ⟨by rw [HX.out]; rfl, rfl⟩
  · have i1 : ¬ (32 : Int) ≤ ((n : Nat) : Int) := by omega
    have i2 := decide_eq_false i1
    have HX := Lib.hid (show seen c = false by rw [HS.out, decide_eq_false h1, Bool.false_and])
    go_enter Tryz.func80, Tryz.ntmps80
    go_wp2
    go_ret
    exact ⟨by rw [HX.out]; rfl, rfl⟩
end Go.Proofs.YtbgnggkgmeagkaaGreatDoor
namespace Go.Proofs.YtbgnggkgmeagkaaGreatDoor
open Go.RowKit

set_option maxRecDepth 100000 in
set_option maxHeartbeats 2000000 in
theorem cmatch_ok (l s : List UInt8) (at_ : Nat) (hl : l.length ≤ 140737488355328) (hat : at_ + s.length ≤ l.length) (hs : ∀ k (h : k < s.length), l[at_ + k]? = some s[k]) (A : Option Addr) (n c : Nat) (hn : n = l.length) (w : World) (hr : Reads w w.heap.size 1 A l.length (bs l)) :
    Calls Tryz.prog 79 #[.slice A n c, .int .i64 ((at_ : Nat) : Int), .string ⟨s.toArray⟩] w fun e w' => e = .returned (.tuple #[.int .i64 ((at_ + s.length : Nat) : Int), .nilIface]) ∧ Below w.heap.size w w' := by
  subst hn
  have HS := Lib.hid hs
  have HR := Lib.hid hr
  have hsz : (ByteArray.mk s.toArray).size = s.length := rfl
  clear hs hr
  go_enter Tryz.func79, Tryz.ntmps79
  go_wp2_with fail
  go_loopg [11] s.length (fun m i wr => ∃ k : Nat, m + k = s.length ∧ i = .int .i64 (k : Int) ∧ Hid (Below w.heap.size w wr))
  case atStart => exact ⟨0, rfl, rfl, Below.refl _ _⟩
  case round =>
    obtain ⟨k, hk, rfl, HB⟩ := hrel
    by_cases hlt : k < s.length
    · have hki : ((k : Nat) : Int) < ((s.length : Nat) : Int) := by omega
      obtain ⟨q, hq⟩ : ∃ q, at_ + k = q := ⟨_, rfl⟩
      have hw1 : wrap64 (((at_ : Nat) : Int) + ((k : Nat) : Int)) = ((q : Nat) : Int) := by unfold wrap64; omega
      have hw2 : ((at_ : Nat) : Int) + ((k : Nat) : Int) = ((q : Nat) : Int) := by omega
      have hat2 : q < l.length := by omega
      have hge : ¬ ((l.length : Nat) : Int) ≤ ((q : Nat) : Int) := by omega
      have hge2 := decide_eq_false hge
      obtain ⟨b, off, hA, hbB, hcl⟩ := reads_byte (HR.out.below HB.out) hat2
      have hx : l[q] = s[k] := by
        have h := HS.out k hlt
        rw [hq] at h
        rw [List.getElem?_eq_getElem hat2] at h
        exact Option.some.inj h
      rw [hx] at hcl
      have hsk : (ByteArray.mk s.toArray)[k]'(by rw [hsz]; exact hlt) = s[k] := by
        have h := Lib.getElem_mk s k (by rw [hsz]; exact hlt)
        rw [List.getElem?_eq_getElem hlt] at h
        exact (Option.some.inj h).symm
      have hbw := Nat.lt_of_lt_of_le hbB HB.out.size
      subst hA
      obtain ⟨y, hy⟩ : ∃ y, s[k] = y := ⟨_, rfl⟩
      rw [hy] at hcl hsk
      have HQE := Lib.hid hq
      clear hx hy hq
      go_wp2_with fail
      go_region
      go_wp2_with fail
      go_roundg (gk - 1)
      case measure => omega
      case rel => exact ⟨k + 1, by omega, by go_num, HB.out.drew⟩
    · have hkl : k = s.length := by omega
      subst hkl
      have hki : ¬ ((s.length : Nat) : Int) < ((s.length : Nat) : Int) := by omega
      obtain ⟨q, hq⟩ : ∃ q, at_ + s.length = q := ⟨_, rfl⟩
      have hw1 : wrap64 (((at_ : Nat) : Int) + ((s.length : Nat) : Int)) = ((q : Nat) : Int) := by unfold wrap64; omega
      have hw2 : ((at_ : Nat) : Int) + ((s.length : Nat) : Int) = ((q : Nat) : Int) := by omega
      have HQE := Lib.hid hq
      clear hq
      go_wp2
      go_ret2
      exact ⟨rfl, HB.out⟩
end Go.Proofs.YtbgnggkgmeagkaaGreatDoor
namespace Go.Proofs.YtbgnggkgmeagkaaGreatDoor
open Go.RowKit

/-- A reader over bytes that lie below it. -/
structure RdAt (w : World) (R : Nat) (A : Option Addr) (l : List UInt8) (c at_ : Nat) : Prop where
  blk : Blk w R 77 #[.slice A l.length c, .int .i64 ((at_ : Nat) : Int), .nilIface]
  rd : Reads w R 1 A l.length (bs l)
  le : at_ ≤ l.length
  cap : l.length ≤ c
  sm : l.length ≤ 140737488355328
set_option maxRecDepth 100000 in
set_option maxHeartbeats 4000000 in
theorem rmatch_ok {w : World} {R : Nat} {A : Option Addr} {l : List UInt8} {c at_ : Nat} (h : RdAt w R A l c at_) (s : List UInt8) (hat : at_ + s.length ≤ l.length) (hs : ∀ k (h : k < s.length), l[at_ + k]? = some s[k]) :
    Calls Tryz.prog 32 #[.pointer (some ⟨R, 0, none⟩), .string ⟨s.toArray⟩] w fun e w' => e = .returned (.tuple #[]) ∧ RdAt w' R A l c (at_ + s.length) ∧ BelowBut w.heap.size R w w' := by
  have c0 := h.blk.cell 0
  have c1 := h.blk.cell 1
  have c2 := h.blk.cell 2
  have hl := h.blk.lt
  obtain ⟨q, hq⟩ : ∃ q, at_ + s.length = q := ⟨_, rfl⟩
  have HQ := Lib.hid hq
  have HAT := Lib.hid hat
  have HC := Lib.hid (show ∀ w1, Below w.heap.size w w1 → Calls Tryz.prog 79 #[.slice A l.length c, .int .i64 ((at_ : Nat) : Int), .string ⟨s.toArray⟩] w1 fun e w' => e = .returned (.tuple #[.int .i64 ((q : Nat) : Int), .nilIface]) ∧ Below w1.heap.size w1 w' from fun w1 hb => by rw [← hq]; exact cmatch_ok l s at_ h.sm hat hs A _ c rfl w1 ((h.rd.below (hb.mono (Nat.le_of_lt hl))).more (Nat.le_trans (Nat.le_of_lt hl) hb.size)))
  have H := Lib.hid h
  clear hs h hq hat
  go_enter Tryz.func32, Tryz.ntmps32
  go_wp2_with fail
  go_region_with (go_at_call 79; refine (HC.out _ (Below.refl _ _).drew).mono ?_; rintro e w1 ⟨rfl, hb1⟩; have hk1 := H.out.blk.drew.below hb1 H.out.blk.lt; have d1 := hk1.cell 1; have d2 := hk1.cell 2; have f1 := hk1.frozen 1; have f2 := hk1.frozen 2; have dl := hk1.lt; have HB1 := Lib.hid hb1; have HK1 := Lib.hid hk1; clear hb1 hk1)
  all_goals
    go_end0
    have hbw : Below w.heap.size w w1 := (Below.refl _ _).drew.trans HB1.out
    have hR := H.out.blk.lt
    refine ⟨rfl, ⟨?_, ?_, ?_, H.out.cap, H.out.sm⟩, ?_⟩
    · have h9 := (HK1.out.set_ 1 (.int .i64 ((q : Nat) : Int))).set_ 2 .nilIface
      rw [HQ.out]
      simpa using h9
    · exact ((H.out.rd.below (hbw.mono (Nat.le_of_lt hR))).setCell (p := ⟨R, 1, none⟩) (Nat.le_refl _) _).setCell (p := ⟨R, 2, none⟩) (Nat.le_refl _) _
    · exact HAT.out
    · exact ((BelowBut.of (g := R) hbw).setCell (p := ⟨R, 1, none⟩) (.inl rfl) _).setCell (p := ⟨R, 2, none⟩) (.inl rfl) _
end Go.Proofs.YtbgnggkgmeagkaaGreatDoor
