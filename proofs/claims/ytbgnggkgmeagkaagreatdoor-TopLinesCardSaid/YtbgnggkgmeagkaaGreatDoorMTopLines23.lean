/-
  fields.pseudo, of a list that begins as fields.List's do. Condition: the texts' lengths; no other name begins with a colon.
  line.Ask: what it writes. Condition: the table of powers lies; texts have lengths that an int holds.
  fields.between; what fields.Ask gathers: the plain part. Condition: none but bounds.
-/
import Derived.Test.YtbgnggkgmeagkaaGreatDoorMTopLines22
import Derived.Test.YtbgnggkgmeagkaaGreatDoorMTopLines09
import Derived.Deep.LoopGhost
set_option linter.unusedSimpArgs false
set_option linter.unusedVariables false
namespace Go.Proofs.YtbgnggkgmeagkaaGreatDoor
open Go.RowKit

def gC (m p h : List UInt8) (a3 a4 : Value) : Nat → Array Value
  | 0 => #[.string ⟨#[]⟩, .string ⟨#[]⟩, .string ⟨#[]⟩, a3, a4]
  | 1 => #[.string ⟨m.toArray⟩, .string ⟨#[]⟩, .string ⟨#[]⟩, a3, a4]
  | 2 => #[.string ⟨m.toArray⟩, .string ⟨p.toArray⟩, .string ⟨#[]⟩, a3, a4]
  | _ => #[.string ⟨m.toArray⟩, .string ⟨p.toArray⟩, .string ⟨h.toArray⟩, a3, a4]
def toE (G : Nat) : Array MapEntry := #[⟨.string ⟨methL.toArray⟩, .pointer (some ⟨G, 0, none⟩), 0⟩, ⟨.string ⟨pathL.toArray⟩, .pointer (some ⟨G, 1, none⟩), 1⟩, ⟨.string ⟨chostL.toArray⟩, .pointer (some ⟨G, 2, none⟩), 2⟩]
def seenE : Nat → Array MapEntry
  | 0 => #[]
  | 1 => #[⟨.string ⟨methL.toArray⟩, .bool true, 0⟩]
  | 2 => #[⟨.string ⟨methL.toArray⟩, .bool true, 0⟩, ⟨.string ⟨pathL.toArray⟩, .bool true, 1⟩]
  | _ => #[⟨.string ⟨methL.toArray⟩, .bool true, 0⟩, ⟨.string ⟨pathL.toArray⟩, .bool true, 1⟩, ⟨.string ⟨chostL.toArray⟩, .bool true, 2⟩]
structure PsSt (w wr : World) (G mb sb : Nat) (m p h : List UInt8) (a3 a4 : Value) (j : Nat) (v : Value) (xs : List Fld) : Prop where
  g : Blk wr G 25 (gC m p h a3 a4 j)
  mb_ : IsMap wr mb (toE G) 3
  sb_ : IsMap wr sb (seenE j) j
  own : wr.ownsRow w.heap.size 41 2 v xs.length (fvs xs)
  bw : BelowBut w.heap.size G w wr
  gl : G < w.heap.size
  ml : mb < w.heap.size
  sl : w.heap.size ≤ sb
theorem PsSt.kept {w wr w1 : World} {G mb sb : Nat} {m p h : List UInt8} {a3 a4 : Value} {j : Nat} {v : Value} {xs : List Fld} (H : PsSt w wr G mb sb m p h a3 a4 j v xs) (hb : Below wr.heap.size wr w1) : PsSt w w1 G mb sb m p h a3 a4 j v xs :=
  ⟨H.g.below hb H.g.lt, H.mb_.below hb H.mb_.lt, H.sb_.below hb H.sb_.lt, ownRow_keep H.own (Keep.of_below (S := fun _ => False) hb) (fun _ _ h => h), H.bw.trans (BelowBut.of (hb.mono H.bw.size)), H.gl, H.ml, H.sl⟩
theorem reads_butG {w wr : World} {G : Nat} {size n : Nat} {LA : Option Addr} {xs : List Value} (hr : Reads w w.heap.size size LA n xs) (hne : ∀ ad, LA = some ad → 0 < n → ad.block ≠ G) (hb : BelowBut w.heap.size G w wr) : Reads wr w.heap.size size LA n xs := by
  refine ⟨hr.1, fun h0 => ?_⟩
  obtain ⟨ad, e, hB, hc⟩ := hr.2 h0
  refine ⟨ad, e, hB, fun j u hu => ?_⟩
  rw [← hc j u hu]
  exact hb.cell (by rw [block_of_add]; exact hB) (by rw [block_of_add]; exact hne ad e h0)
/-- One of the three taken: what stands behind it. -/
theorem ps_step {w wr W4 : World} {G mb sb : Nat} {m p h : List UInt8} {a3 a4 : Value} {j i c : Nat} {v x : Value} {xs : List Fld} (H : PsSt w wr G mb sb m p h a3 a4 j v xs) (hW : putM wr sb (seenE i) c = W4) (hc : c = i) (hij : (gC m p h a3 a4 j).setIfInBounds j x = gC m p h a3 a4 i) :
    PsSt w (W4.setCell ⟨G, j, none⟩ x) G mb sb m p h a3 a4 i v xs := by
  subst hW
  subst hc
  have hms : mb ≠ sb := by have := H.ml; have := H.sl; omega
  refine ⟨?_, ?_, ?_, ?_, ?_, H.gl, H.ml, H.sl⟩
  · have := (H.g.putM H.sb_ (es := seenE c) (c := c)).set_ j x
    rwa [hij] at this
  · exact IsMap.setCell ((putM_other hms).trans H.mb_) _ _
  · exact (putM_same H.sb_).setCell _ _
  · exact own_setLow (own_putM H.own H.sb_) (p := ⟨G, j, none⟩) H.gl x
  · refine BelowBut.setCell ?_ (p := ⟨G, j, none⟩) (.inl rfl) x
    exact H.bw.trans (BelowBut.of (putM_below (Below.refl _ _) H.sl))
theorem pre_no {s : List UInt8} (h : ∀ y, s.head? = some y → y ≠ 58) : Lib.hasPrefix s [58] = false := by
  cases s with
  | nil => rfl
  | cons y t =>
    have h1 := h y rfl
    unfold Lib.hasPrefix
    simp [List.isPrefixOf, h1.symm]
theorem zero_bool : ∀ w, (zeroValue 4).run Tryz.prog w = .ok (.bool false) w := by
  intro w
  kernel_rfl
set_option maxRecDepth 100000 in
set_option maxHeartbeats 4000000 in
theorem pseudo_ok (m p h : List UInt8) (rest : List Fld) (hno : ∀ f ∈ rest, ∀ y, f.1.head? = some y → y ≠ 58) (hrl : rest.length ≤ 100000) (G mb : Nat) (a3 a4 : Value) (LA : Option Addr) (n c : Nat) (hn : n = rest.length + 3) (w : World) (hr : Reads w w.heap.size 2 LA (rest.length + 3) (fvs ((methL, m) :: (pathL, p) :: (chostL, h) :: rest))) (hne : ∀ ad, LA = some ad → ad.block ≠ G)
    (hg : Blk w G 25 (gC m p h a3 a4 0)) (hmb : IsMap w mb (toE G) 3) :
    Calls Tryz.prog 47 #[.slice LA n c, .map (some mb)] w fun e w' => ∃ A c2, e = .returned (.tuple #[.slice A rest.length c2, .nilIface]) ∧ w'.ownsRow w.heap.size 41 2 (.slice A rest.length c2) rest.length (fvs rest) ∧ Blk w' G 25 (gC m p h a3 a4 3) ∧ BelowBut w.heap.size G w w' := by
  subst hn
  have HS0 := Lib.hid (show PsSt w (w.alloc (.map #[] 0)) G mb w.heap.size m p h a3 a4 0 (.slice none 0 0) [] from by
    have hba : Below w.heap.size w (w.alloc (.map #[] 0)) := (Below.refl _ _).alloc (Nat.le_refl _) _
    exact ⟨hg.below hba hg.lt, hmb.below hba hmb.lt, heap_alloc_new w _, World.ownsRow_nil _ _ _ _, BelowBut.of hba, hg.lt, hmb.lt, Nat.le_refl _⟩)
  have HR := Lib.hid hr
  have HNE := Lib.hid hne
  have HNO := Lib.hid hno
  clear hr hne hno hg hmb
  have q0 := run_makeMap_plain (P := Tryz.prog) w 186
  go_enter Tryz.func47, Tryz.ntmps47
  go_wp2_with fail
  go_loopg [4, 14] (rest.length + 3) (fun mm v4 i wr => ∃ (k j N : Nat) (A : Option Addr) (c2 : Nat), mm + k = rest.length + 3 ∧ v4 = .slice A N c2 ∧ i = .int .i64 ((k : Nat) : Int) ∧ Hid (j = min k 3) ∧ Hid (N = (rest.take (k - 3)).length) ∧ Hid (PsSt w wr G mb w.heap.size m p h a3 a4 j (.slice A N c2) (rest.take (k - 3))))
  case atStart => exact ⟨0, 0, 0, none, 0, rfl, rfl, rfl, rfl, rfl, HS0.out⟩
  case round =>
    clear HS0
    obtain ⟨k, j, N, A, c2, hk, rfl, rfl, HJ, HN, HS⟩ := hrel
    have HK := Lib.hid hk
    have hkl : k ≤ rest.length + 3 := by omega
    clear hk
    have hwz := HS.out.bw.size
    by_cases hlt : k < rest.length + 3
    · have hrw := reads_butG HR.out (fun ad e _ => HNE.out ad e) HS.out.bw
      obtain ⟨b, off, hA, hbB, hcl⟩ := reads_fld (l := (methL, m) :: (pathL, p) :: (chostL, h) :: rest) hrw (by simp)
      subst hA
      have hki : ((k : Nat) : Int) < ((rest.length : Nat) : Int) + 3 := by omega
      have hbw : b < wr.heap.size := Nat.lt_of_lt_of_le hbB hwz
      rcases Nat.lt_or_ge k 3 with hk3 | hk3
      · rcases (show k = 0 ∨ k = 1 ∨ k = 2 by omega) with rfl | rfl | rfl
        · have hj : j = 0 := HJ.out
          subst hj
          obtain ⟨c0, c1⟩ := hcl 0 (by simp)
          have hN0 : N = 0 := by have := HN.out; simpa using this
          subst hN0
          have c0 : wr.cell? ⟨b, off, none⟩ = some (.string ⟨#[58, 109, 101, 116, 104, 111, 100]⟩) := c0
          have c1 : wr.cell? ⟨b, off + 1, none⟩ = some (.string ⟨m.toArray⟩) := c1
          have hba : Below wr.heap.size wr (wr.alloc (.cells #[.string ⟨#[58, 109, 101, 116, 104, 111, 100]⟩, .string ⟨m.toArray⟩] 41)) := (Below.refl _ _).alloc (Nat.le_refl _) _
          have hsa := HS.out.kept hba
          have hfl := Blk.new wr 41 #[.string ⟨#[58, 109, 101, 116, 104, 111, 100]⟩, .string ⟨m.toArray⟩]
          have q1 := run_look (P := Tryz.prog) (t := 105) (k := .string ⟨#[58, 109, 101, 116, 104, 111, 100]⟩) Tryz.underlying105 Tryz.underlying9 rfl hsa.mb_ (i := 0) (v := .pointer (some ⟨G, 0, none⟩)) (by rfl) true
          have q2 := run_look_no (P := Tryz.prog) (t := 186) (k := .string ⟨#[58, 109, 101, 116, 104, 111, 100]⟩) Tryz.underlying186 Tryz.underlying9 rfl hsa.sb_ (by rfl) (zero_bool _) false
          obtain ⟨W4, hW4⟩ : ∃ W4, putM (wr.alloc (.cells #[.string ⟨#[58, 109, 101, 116, 104, 111, 100]⟩, .string ⟨m.toArray⟩] 41)) w.heap.size (seenE 1) 1 = W4 := ⟨_, rfl⟩
          have q3 : (Instr.mapUpdate 186 (.map (some w.heap.size)) (.string ⟨#[58, 109, 101, 116, 104, 111, 100]⟩) (.bool true)).run Tryz.prog (wr.alloc (.cells #[.string ⟨#[58, 109, 101, 116, 104, 111, 100]⟩, .string ⟨m.toArray⟩] 41)) = .ok () W4 := by
            rw [← hW4]
            exact run_upd_new (P := Tryz.prog) Tryz.underlying186 Tryz.underlying9 rfl hsa.sb_ (by rfl) (.bool true)
          have hfl4 : Blk W4 wr.heap.size 41 #[.string ⟨#[58, 109, 101, 116, 104, 111, 100]⟩, .string ⟨m.toArray⟩] := by rw [← hW4]; exact hfl.putM hsa.sb_
          have hg4 : Blk W4 G 25 (gC m p h a3 a4 0) := by rw [← hW4]; exact hsa.g.putM hsa.sb_
          have d1 := hfl4.cell 1
          have dl := hfl4.lt
          have g4 := hg4.cell 0
          have gf := hg4.frozen 0
          have gl := hg4.lt
          have HP := Lib.hid (Tryz.strings_HasPrefix ⟨#[58, 109, 101, 116, 104, 111, 100]⟩ ⟨#[58]⟩ (wr.alloc (.cells #[.string ⟨#[58, 109, 101, 116, 104, 111, 100]⟩, .string ⟨m.toArray⟩] 41)))
          have HE := Lib.hid (ps_step (i := 1) (x := .string ⟨m.toArray⟩) hsa hW4 rfl rfl)
          clear hcl hba hsa hfl hW4 hfl4 hg4
          go_wp2_with fail
          refine HP.out.mono ?_
          rintro e w3 ⟨rfl, rfl⟩
          rw [show Lib.hasPrefix (ByteArray.mk #[58, 109, 101, 116, 104, 111, 100]).data.toList (ByteArray.mk #[58]).data.toList = true from rfl]
          go_wp2_with fail
          go_roundg (gk - 1)
          case measure => have := HK.out; omega
          case rel => exact ⟨1, 1, 0, A, c2, by have := HK.out; omega, rfl, rfl, rfl, HN.out, HE.out⟩
        · have hj : j = 1 := HJ.out
          subst hj
          obtain ⟨c0, c1⟩ := hcl 1 (by simp)
          have hN0 : N = 0 := by have := HN.out; simpa using this
          subst hN0
          have c0 : wr.cell? ⟨b, off + 2, none⟩ = some (.string ⟨#[58, 112, 97, 116, 104]⟩) := c0
          have c1 : wr.cell? ⟨b, off + 2 + 1, none⟩ = some (.string ⟨p.toArray⟩) := c1
          have hba : Below wr.heap.size wr (wr.alloc (.cells #[.string ⟨#[58, 112, 97, 116, 104]⟩, .string ⟨p.toArray⟩] 41)) := (Below.refl _ _).alloc (Nat.le_refl _) _
          have hsa := HS.out.kept hba
          have hfl := Blk.new wr 41 #[.string ⟨#[58, 112, 97, 116, 104]⟩, .string ⟨p.toArray⟩]
          have q1 := run_look (P := Tryz.prog) (t := 105) (k := .string ⟨#[58, 112, 97, 116, 104]⟩) Tryz.underlying105 Tryz.underlying9 rfl hsa.mb_ (i := 1) (v := .pointer (some ⟨G, 1, none⟩)) (by rfl) true
          have q2 := run_look_no (P := Tryz.prog) (t := 186) (k := .string ⟨#[58, 112, 97, 116, 104]⟩) Tryz.underlying186 Tryz.underlying9 rfl hsa.sb_ (by rfl) (zero_bool _) false
          obtain ⟨W4, hW4⟩ : ∃ W4, putM (wr.alloc (.cells #[.string ⟨#[58, 112, 97, 116, 104]⟩, .string ⟨p.toArray⟩] 41)) w.heap.size (seenE 2) 2 = W4 := ⟨_, rfl⟩
          have q3 : (Instr.mapUpdate 186 (.map (some w.heap.size)) (.string ⟨#[58, 112, 97, 116, 104]⟩) (.bool true)).run Tryz.prog (wr.alloc (.cells #[.string ⟨#[58, 112, 97, 116, 104]⟩, .string ⟨p.toArray⟩] 41)) = .ok () W4 := by
            rw [← hW4]
            exact run_upd_new (P := Tryz.prog) Tryz.underlying186 Tryz.underlying9 rfl hsa.sb_ (by rfl) (.bool true)
          have hfl4 : Blk W4 wr.heap.size 41 #[.string ⟨#[58, 112, 97, 116, 104]⟩, .string ⟨p.toArray⟩] := by rw [← hW4]; exact hfl.putM hsa.sb_
          have hg4 : Blk W4 G 25 (gC m p h a3 a4 1) := by rw [← hW4]; exact hsa.g.putM hsa.sb_
          have d1 := hfl4.cell 1
          have dl := hfl4.lt
          have g4 := hg4.cell 1
          have gf := hg4.frozen 1
          have gl := hg4.lt
          have HP := Lib.hid (Tryz.strings_HasPrefix ⟨#[58, 112, 97, 116, 104]⟩ ⟨#[58]⟩ (wr.alloc (.cells #[.string ⟨#[58, 112, 97, 116, 104]⟩, .string ⟨p.toArray⟩] 41)))
          have HE := Lib.hid (ps_step (i := 2) (x := .string ⟨p.toArray⟩) hsa hW4 rfl rfl)
          clear hcl hba hsa hfl hW4 hfl4 hg4
          go_wp2_with fail
          refine HP.out.mono ?_
          rintro e w3 ⟨rfl, rfl⟩
          rw [show Lib.hasPrefix (ByteArray.mk #[58, 112, 97, 116, 104]).data.toList (ByteArray.mk #[58]).data.toList = true from rfl]
          go_wp2_with fail
          go_roundg (gk - 1)
          case measure => have := HK.out; omega
          case rel => exact ⟨2, 2, 0, A, c2, by have := HK.out; omega, rfl, rfl, rfl, HN.out, HE.out⟩
        · have hj : j = 2 := HJ.out
          subst hj
          obtain ⟨c0, c1⟩ := hcl 2 (by simp)
          have hN0 : N = 0 := by have := HN.out; simpa using this
          subst hN0
          have c0 : wr.cell? ⟨b, off + 4, none⟩ = some (.string ⟨#[58, 104, 111, 115, 116]⟩) := c0
          have c1 : wr.cell? ⟨b, off + 4 + 1, none⟩ = some (.string ⟨h.toArray⟩) := c1
          have hba : Below wr.heap.size wr (wr.alloc (.cells #[.string ⟨#[58, 104, 111, 115, 116]⟩, .string ⟨h.toArray⟩] 41)) := (Below.refl _ _).alloc (Nat.le_refl _) _
          have hsa := HS.out.kept hba
          have hfl := Blk.new wr 41 #[.string ⟨#[58, 104, 111, 115, 116]⟩, .string ⟨h.toArray⟩]
          have q1 := run_look (P := Tryz.prog) (t := 105) (k := .string ⟨#[58, 104, 111, 115, 116]⟩) Tryz.underlying105 Tryz.underlying9 rfl hsa.mb_ (i := 2) (v := .pointer (some ⟨G, 2, none⟩)) (by rfl) true
          have q2 := run_look_no (P := Tryz.prog) (t := 186) (k := .string ⟨#[58, 104, 111, 115, 116]⟩) Tryz.underlying186 Tryz.underlying9 rfl hsa.sb_ (by rfl) (zero_bool _) false
          obtain ⟨W4, hW4⟩ : ∃ W4, putM (wr.alloc (.cells #[.string ⟨#[58, 104, 111, 115, 116]⟩, .string ⟨h.toArray⟩] 41)) w.heap.size (seenE 3) 3 = W4 := ⟨_, rfl⟩
          have q3 : (Instr.mapUpdate 186 (.map (some w.heap.size)) (.string ⟨#[58, 104, 111, 115, 116]⟩) (.bool true)).run Tryz.prog (wr.alloc (.cells #[.string ⟨#[58, 104, 111, 115, 116]⟩, .string ⟨h.toArray⟩] 41)) = .ok () W4 := by
            rw [← hW4]
            exact run_upd_new (P := Tryz.prog) Tryz.underlying186 Tryz.underlying9 rfl hsa.sb_ (by rfl) (.bool true)
          have hfl4 : Blk W4 wr.heap.size 41 #[.string ⟨#[58, 104, 111, 115, 116]⟩, .string ⟨h.toArray⟩] := by rw [← hW4]; exact hfl.putM hsa.sb_
          have hg4 : Blk W4 G 25 (gC m p h a3 a4 2) := by rw [← hW4]; exact hsa.g.putM hsa.sb_
          have d1 := hfl4.cell 1
          have dl := hfl4.lt
          have g4 := hg4.cell 2
          have gf := hg4.frozen 2
          have gl := hg4.lt
          have HP := Lib.hid (Tryz.strings_HasPrefix ⟨#[58, 104, 111, 115, 116]⟩ ⟨#[58]⟩ (wr.alloc (.cells #[.string ⟨#[58, 104, 111, 115, 116]⟩, .string ⟨h.toArray⟩] 41)))
          have HE := Lib.hid (ps_step (i := 3) (x := .string ⟨h.toArray⟩) hsa hW4 rfl rfl)
          clear hcl hba hsa hfl hW4 hfl4 hg4
          go_wp2_with fail
          refine HP.out.mono ?_
          rintro e w3 ⟨rfl, rfl⟩
          rw [show Lib.hasPrefix (ByteArray.mk #[58, 104, 111, 115, 116]).data.toList (ByteArray.mk #[58]).data.toList = true from rfl]
          go_wp2_with fail
          go_roundg (gk - 1)
          case measure => have := HK.out; omega
          case rel => exact ⟨3, 3, 0, A, c2, by have := HK.out; omega, rfl, rfl, rfl, HN.out, HE.out⟩
      · have hj : j = 3 := by have := HJ.out; omega
        subst hj
        obtain ⟨k3, rfl⟩ : ∃ k3, k = k3 + 3 := ⟨k - 3, by omega⟩
        rw [Nat.add_sub_cancel] at HN HS
        have hlr : k3 < rest.length := by omega
        have hge : ((methL, m) :: (pathL, p) :: (chostL, h) :: rest)[k3 + 3]'(by simp; omega) = rest[k3] := rfl
        obtain ⟨c0, c1⟩ := hcl (k3 + 3) (by simp; omega)
        rw [hge] at c0 c1
        have hno := HNO.out rest[k3] (List.getElem_mem hlr)
        have htk : rest.take (k3 + 1) = rest.take k3 ++ [rest[k3]] := List.take_succ_eq_append_getElem hlr
        have hNl : N ≤ 100000 := by have := HN.out; rw [List.length_take] at this; omega
        obtain ⟨f, hfk⟩ : ∃ f, rest[k3] = f := ⟨_, rfl⟩
        rw [hfk] at c0 c1 hno htk
        obtain ⟨f1, f2⟩ := f
        simp only at c0 c1 hno
        have hpn := pre_no hno
        have HTK := Lib.hid htk
        have hba : Below wr.heap.size wr (wr.alloc (.cells #[.string ⟨f1.toArray⟩, .string ⟨f2.toArray⟩] 41)) := (Below.refl _ _).alloc (Nat.le_refl _) _
        have HSA := Lib.hid (HS.out.kept hba)
        have HO := Lib.hid (show (wr.alloc (.cells #[.string ⟨f1.toArray⟩, .string ⟨f2.toArray⟩] 41)).ownsRow w.heap.size 41 2 (.slice A N c2) N (fvs (rest.take k3)) by have h9 := HSA.out.own; rwa [← HN.out] at h9)
        have HP := Lib.hid (show Calls Tryz.prog 98 #[.string ⟨f1.toArray⟩, .string ⟨#[58]⟩] (wr.alloc (.cells #[.string ⟨f1.toArray⟩, .string ⟨f2.toArray⟩] 41)) fun e w' => e = .returned (.bool false) ∧ w' = (wr.alloc (.cells #[.string ⟨f1.toArray⟩, .string ⟨f2.toArray⟩] 41)) from by
          rw [← hpn]
          exact Tryz.strings_HasPrefix ⟨f1.toArray⟩ ⟨#[58]⟩ _)
        have hki2 : ((k3 + 3 : Nat) : Int) < ((rest.length : Nat) : Int) + 3 := hki
        clear hcl hba hge hno hfk hpn htk hki
        go_wp2_with fail
        refine HP.out.mono ?_
        rintro e w3 ⟨rfl, rfl⟩
        go_wp2_with (at_builtin; refine wpList_pushF2 rfl _ _ rfl w.heap.size _ _ (rest.take k3) rfl HO.out (f1, f2) _ rfl (by simp) (by omega) (by simp; omega) ?_; intro A5 c5 w5 hown5 hg5 hv5 hb5; have HO5 := Lib.hid hown5; have HG5 := Lib.hid hg5; have HB5 := Lib.hid hb5; clear hown5 hg5 hv5 hb5)
        go_roundg (gk - 1)
        case measure => have := HK.out; omega
        case rel =>
          refine ⟨k3 + 3 + 1, 3, N + 1, A5, c5, by have := HK.out; omega, rfl, by go_num, (show 3 = _ by omega), ?_, ?_⟩
          · show N + 1 = _
            rw [show k3 + 3 + 1 - 3 = k3 + 1 by omega, HTK.out, List.length_append, ← HN.out]
            rfl
          · show PsSt _ _ _ _ _ _ _ _ _ _ _ _ _
            rw [show k3 + 3 + 1 - 3 = k3 + 1 by omega, HTK.out]
            have ha := HSA.out.kept ((Below.refl _ _).alloc (Nat.le_refl _) (.cells #[.string ⟨f1.toArray⟩, .string ⟨f2.toArray⟩] 41))
            have hgl := HSA.out.gl
            have hne1 : (Value.slice A N c2).ownBlock ≠ some G := fun e => by have := (HSA.out.own.lt _ e).1; omega
            have hne2 : (Value.slice A N c2).ownBlock ≠ some mb := fun e => by have := (HSA.out.own.lt _ e).1; have := HSA.out.ml; omega
            have hne3 : (Value.slice A N c2).ownBlock ≠ some w.heap.size := ha.sb_.own_ne ha.own
            refine ⟨ha.g.grown HG5.out (fun e => hne1 e.symm), (HG5.out.block mb ha.mb_.lt (fun e => hne2 e.symm)).trans ha.mb_, (HG5.out.block w.heap.size ha.sb_.lt (fun e => hne3 e.symm)).trans ha.sb_, ?_, ?_, ha.gl, ha.ml, ha.sl⟩
            · rw [show (rest.take k3 ++ [(f1, f2)]).length = N + 1 by rw [List.length_append, ← HN.out]; rfl]
              exact HO5.out
            · exact HSA.out.bw.trans (BelowBut.of HB5.out)
    · have hk2 : k = rest.length + 3 := by omega
      subst hk2
      have hj : j = 3 := by have := HJ.out; omega
      subst hj
      rw [Nat.add_sub_cancel, List.take_length] at HN HS
      have hN := HN.out
      subst hN
      have hki : ¬ ((rest.length : Nat) : Int) + 3 < ((rest.length : Nat) : Int) + 3 := by omega
      have q1 := run_mlen (P := Tryz.prog) 3 (t := 105) Tryz.underlying105 HS.out.mb_
      have q2 := run_mlen (P := Tryz.prog) 3 (t := 186) Tryz.underlying186 HS.out.sb_
      go_wp2
      go_ret2
      exact ⟨A, c2, rfl, HS.out.own, HS.out.g, HS.out.bw⟩
end Go.Proofs.YtbgnggkgmeagkaaGreatDoor
namespace Go.Proofs.YtbgnggkgmeagkaaGreatDoor
open Go.RowKit

theorem cat_mk (a b : List UInt8) : ByteArray.mk a.toArray ++ ByteArray.mk b.toArray = ⟨(a ++ b).toArray⟩ := by rw [ByteArray.mk_append_mk]; try simp
def ask1 (m p h : List UInt8) (fs : List Fld) : List UInt8 := m ++ ([32] ++ (p ++ ([32, 69, 68, 71, 69, 47, 49] ++ ([13, 10] ++ ([104, 111, 115, 116, 58, 32] ++ (h ++ ([13, 10] ++ linesL fs)))))))
theorem ask1_cat (m p h : List UInt8) (fs : List Fld) :
    ByteArray.mk m.toArray ++ ByteArray.mk #[32] ++ ByteArray.mk p.toArray ++ ByteArray.mk #[32, 69, 68, 71, 69, 47, 49] ++ ByteArray.mk #[13, 10] ++ ByteArray.mk #[104, 111, 115, 116, 58, 32] ++ ByteArray.mk h.toArray ++ ByteArray.mk #[13, 10] ++ ByteArray.mk (linesL fs).toArray = ⟨(ask1 m p h fs).toArray⟩ := by
  rw [show (ByteArray.mk #[32]) = ⟨([32] : List UInt8).toArray⟩ from rfl, show (ByteArray.mk #[32, 69, 68, 71, 69, 47, 49]) = ⟨([32, 69, 68, 71, 69, 47, 49] : List UInt8).toArray⟩ from rfl, show (ByteArray.mk #[13, 10]) = ⟨([13, 10] : List UInt8).toArray⟩ from rfl, show (ByteArray.mk #[104, 111, 115, 116, 58, 32]) = ⟨([104, 111, 115, 116, 58, 32] : List UInt8).toArray⟩ from rfl]
  simp only [cat_mk]
  simp [ask1]
theorem ask_whole (m p h : List UInt8) (fs : List Fld) (b : List UInt8) : askL m p h fs b = ask1 m p h fs ++ (lenL b.length ++ [13, 10]) ++ b := by
  unfold askL ask1 edgeL
  simp
theorem AppStr.up {w w2 W : World} {v : Value} {l : List UInt8} (h : AppStr w2 W v l) (hb : Below w.heap.size w w2) : AppStr w W v l := by
  obtain ⟨ad, c, h1, h2, h3, h4, h5, h6⟩ := h
  exact ⟨ad, c, h1, h2, Nat.le_trans hb.size h3, h4, h5, hb.trans (h6.mono hb.size)⟩
/-- A sum of texts under a name. -/
theorem cat_name (a b : List UInt8) : ∃ c : List UInt8, ByteArray.mk a.toArray ++ ByteArray.mk b.toArray = ⟨c.toArray⟩ ∧ c.length = a.length + b.length ∧ a ++ b = c := ⟨_, cat_mk a b, List.length_append, rfl⟩
set_option maxRecDepth 100000 in
set_option maxHeartbeats 4000000 in
theorem lask_ok (m p h : List UInt8) (fs : List Fld) (b : List UInt8) (hE : askE m p h fs b.length = 0) (FA : Option Addr) (fn fc : Nat) (hfn : fn = fs.length) (BA : Option Addr) (bn bc : Nat) (hbn : bn = b.length) (w : World) (hP : Pow w) (hr : Reads w w.heap.size 2 FA fs.length (fvs fs)) (hrb : Reads w w.heap.size 1 BA b.length (bs b)) :
    Calls Tryz.prog 6 #[.agg (reqV m p h FA fn fc BA bn bc)] w fun e w' => ∃ v, e = .returned (.tuple #[v, .nilIface]) ∧ AppStr w w' v (askL m p h fs b) := by
  subst hfn
  subst hbn
  obtain ⟨q1, q2, q3, q4, q5, q6, q7⟩ := askE_fine hE
  have hgood := fldE_good fs q7
  have hsh := good_short q1 hgood
  have hlen := askL_len m p h fs b (tok_until q3).2.1 (word_until q4).2.1 (plain_len q6) hsh q2
  have hlong : longOk fs := fun f hf => by have := hsh.2 f hf; omega
  obtain ⟨W, hW⟩ : ∃ W, w.alloc (.cells (reqV m p h FA fs.length fc BA b.length bc) 25) = W := ⟨_, rfl⟩
  have q : ∀ w1, Below W.heap.size W w1 → w1.cell? ⟨w.heap.size, 0, none⟩ = some (.string ⟨m.toArray⟩) ∧ w1.cell? ⟨w.heap.size, 1, none⟩ = some (.string ⟨p.toArray⟩) ∧ w1.cell? ⟨w.heap.size, 2, none⟩ = some (.string ⟨h.toArray⟩) ∧ w1.cell? ⟨w.heap.size, 3, none⟩ = some (.slice FA fs.length fc) ∧ w1.cell? ⟨w.heap.size, 4, none⟩ = some (.slice BA b.length bc) ∧ w.heap.size < w1.heap.size ∧ Below w.heap.size w w1 := by
    intro w1 h1
    rw [← hW] at h1
    have hb := Blk.new w 25 (reqV m p h FA fs.length fc BA b.length bc)
    have hb2 := hb.below h1 hb.lt
    have hba : Below w.heap.size w (w.alloc (.cells (reqV m p h FA fs.length fc BA b.length bc) 25)) := (Below.refl _ _).alloc (Nat.le_refl _) _
    exact ⟨hb2.cell 0, hb2.cell 1, hb2.cell 2, hb2.cell 3, hb2.cell 4, hb2.lt, hba.trans (h1.mono hba.size)⟩
  have HQ := Lib.hid q
  have HR := Lib.hid hr
  have HRB := Lib.hid hrb
  have HPW := Lib.hid hP
  have HSH := Lib.hid hsh
  have HLN := Lib.hid hlen
  have HBW := HQ.out W (Below.refl _ _)
  have HC := Lib.hid (show Calls Tryz.prog 26 #[.agg (reqV m p h FA fs.length fc BA b.length bc)] W fun e w' => e = .returned .nilIface ∧ Below W.heap.size W w' from by
    have h0 := checkAsk_any m p h fs (by have := (tok_until q3).2.1; omega) (by have := (word_until q4).2.1; omega) (by have := plain_len q6; omega) hlong (by omega) FA fs.length fc rfl BA b.length bc W ((hr.below HBW.2.2.2.2.2.2).more HBW.2.2.2.2.2.2.size)
    rw [hE] at h0
    exact h0)
  have HLI := Lib.hid (show ∀ w1, Below W.heap.size W w1 → Calls Tryz.prog 27 #[.slice FA fs.length fc] w1 fun e w' => e = .returned (.string ⟨(linesL fs).toArray⟩) ∧ Below w1.heap.size w1 w' from fun w1 hb => lines_any fs hsh FA fs.length fc rfl w1 ((hr.below (q w1 hb).2.2.2.2.2.2).more (q w1 hb).2.2.2.2.2.2.size))
  obtain ⟨d0, d1, d2, d3, d4, dl, -⟩ := HBW
  have hb8 := q2
  have hm4 := (tok_until q3).2.1
  have hp4 := (word_until q4).2.1
  have hh4 := plain_len q6
  have hl4 := linesL_len fs hsh.2
  have hl5 : (linesL fs).length ≤ 40000 := by have := hsh.1; omega
  clear hl4
  clear hE hr hrb hP q hlong hsh hgood q1 q2 q3 q4 q5 q6 q7 hlen
  have HW := Lib.hid hW
  go_enter Tryz.func6, Tryz.ntmps6
  go_wp2_with fail
  refine HC.out.mono ?_
  rintro e w1 ⟨rfl, hb1⟩
  have HB1 := Lib.hid hb1
  clear hb1 hW
  go_wp2_with fail
  refine quiet_in (fun w' => Below W.heap.size W w') (by kernel_rfl) (by kernel_rfl) ?_ fun hne => ?_
  · exact HB1.out.drew
  have z0 : ∀ x : WIn (fun w' => Below W.heap.size W w'), x.w.cell? ⟨w.heap.size, 0, none⟩ = some (.string ⟨m.toArray⟩) := fun x => (HQ.out _ x.h).1
  have z1 : ∀ x : WIn (fun w' => Below W.heap.size W w'), x.w.cell? ⟨w.heap.size, 1, none⟩ = some (.string ⟨p.toArray⟩) := fun x => (HQ.out _ x.h).2.1
  have z2 : ∀ x : WIn (fun w' => Below W.heap.size W w'), x.w.cell? ⟨w.heap.size, 2, none⟩ = some (.string ⟨h.toArray⟩) := fun x => (HQ.out _ x.h).2.2.1
  have z3 : ∀ x : WIn (fun w' => Below W.heap.size W w'), x.w.cell? ⟨w.heap.size, 3, none⟩ = some (.slice FA fs.length fc) := fun x => (HQ.out _ x.h).2.2.2.1
  repeat (first | go_big_quiet_skip | (go_big_quiet_want; go_big_quiet_op; go_big_quiet_on))
  go_big_quiet_want
  go_big_quiet_op
  refine ⟨_, fun x => quiet_call (HLI.out _ x.h) (fun e w9 h9 => ⟨h9.1, x.h.trans (h9.2.mono x.h.size)⟩), ?_⟩
  go_big_quiet_on
  repeat (first | go_big_quiet_skip | (go_big_quiet_want; go_big_quiet_op; go_big_quiet_on))
  refine wpQuiet_nil ?_
  intro w9 hw9
  obtain ⟨x, rfl⟩ := hw9
  obtain ⟨w2, hb2⟩ := x
  simp only
  clear z0 z1 z2 z3 hne
  rw [ask1_cat]
  obtain ⟨d0, d1, d2, d3, d4, dl, hbw2⟩ := HQ.out w2 hb2
  have HB2 := Lib.hid hb2
  have HP2 := Lib.hid (HPW.out.next hbw2)
  have HRB2 := Lib.hid ((HRB.out.below hbw2).more hbw2.size)
  have HBW2 := Lib.hid hbw2
  have h1len : (ask1 m p h fs).length ≤ 50000 := by
    have := HLN.out
    rw [ask_whole, List.length_append, List.length_append] at this
    omega
  clear hb2 hbw2
  rcases Nat.eq_zero_or_pos b.length with hb0 | hb0
  · have hbn : b = [] := List.eq_nil_of_length_eq_zero hb0
    subst hbn
    have hw : askL m p h fs [] = ask1 m p h fs ++ [13, 10] ++ [] := by rw [ask_whole]; rfl
    obtain ⟨s1, hs1⟩ : ∃ s1, ask1 m p h fs = s1 := ⟨_, rfl⟩
    rw [hs1] at hw h1len ⊢
    have e2 : ByteArray.mk s1.toArray ++ ByteArray.mk #[13, 10] = ⟨(s1 ++ [13, 10]).toArray⟩ := cat_mk _ _
    have h2len : (s1 ++ [13, 10]).length ≤ 60000 := by simp; omega
    obtain ⟨s2, hs2⟩ : ∃ s2, s1 ++ [13, 10] = s2 := ⟨_, rfl⟩
    rw [hs2] at hw e2 h2len
    obtain ⟨cc, W5, hcv, hb5, v5, W6, hap, hfin⟩ := run_append_str 23 w2 s2 BA bc [] HRB2.out (by simp; omega)
    have HFIN := Lib.hid hfin
    have HAP := Lib.hid hap
    have HWH := Lib.hid hw
    have c5 := (HQ.out W5 (HB2.out.trans (hb5.mono HB2.out.size))).2.2.2.2.1
    have l5 := (HQ.out W5 (HB2.out.trans (hb5.mono HB2.out.size))).2.2.2.2.2.1
    clear hw hs1 hs2 hfin hb5 hap
    go_wp2_with (at_builtin; refine wpList_append_run rfl _ _ _ rfl _ _ rfl rfl v5 W6 HAP.out ?_)
    go_ret2
    refine ⟨_, rfl, ?_⟩
    have h9 := HFIN.out
    rw [← HWH.out] at h9
    exact h9.up HBW2.out
  · have hw : askL m p h fs b = ask1 m p h fs ++ ([108, 101, 110, 103, 116, 104, 58, 32] ++ Lib.decDigits b.length ++ [13, 10]) ++ [13, 10] ++ b := by
      rw [ask_whole]
      unfold lenL lengthL
      rw [if_neg (by omega)]
      simp
    obtain ⟨s1, hs1⟩ : ∃ s1, ask1 m p h fs = s1 := ⟨_, rfl⟩
    rw [hs1] at hw h1len ⊢
    have hdl := dec_len b.length 3 (by omega)
    have HI := Lib.hid (itoa_any b.length (by omega) w2 HP2.out)
    obtain ⟨D, hD⟩ : ∃ D, Lib.decDigits b.length = D := ⟨_, rfl⟩
    rw [hD] at hw hdl HI
    obtain ⟨t1, e1, n1, x1⟩ := cat_name [108, 101, 110, 103, 116, 104, 58, 32] D
    obtain ⟨t2, e2, n2, x2⟩ := cat_name t1 [13, 10]
    obtain ⟨t3, e3, n3, x3⟩ := cat_name s1 t2
    obtain ⟨t4, e4, n4, x4⟩ := cat_name t3 [13, 10]
    have E1 : ByteArray.mk #[108, 101, 110, 103, 116, 104, 58, 32] ++ ByteArray.mk D.toArray = ⟨t1.toArray⟩ := e1
    have E2 : ByteArray.mk t1.toArray ++ ByteArray.mk #[13, 10] = ⟨t2.toArray⟩ := e2
    have E4 : ByteArray.mk t3.toArray ++ ByteArray.mk #[13, 10] = ⟨t4.toArray⟩ := e4
    rw [x1, x2, x3, x4] at hw
    simp only [List.length_cons, List.length_nil] at n1 n2 n4
    have l1 : t1.length ≤ 100 := by omega
    have l2 : t2.length ≤ 100 := by omega
    have l3 : t3.length ≤ 60000 := by omega
    have l4 : t4.length ≤ 60000 := by omega
    have hi0 : (0 : Int) < ((b.length : Nat) : Int) := by omega
    have HWH := Lib.hid hw
    clear hw hs1 hD e1 e2 e4 n1 n2 n3 n4 x1 x2 x3 x4
    go_wp2_with fail
    refine HI.out.mono ?_
    rintro e w3 ⟨rfl, hb3⟩
    have HB3 := Lib.hid (HB2.out.trans (hb3.mono HB2.out.size))
    obtain ⟨d0, d1, d2, d3, d4, dl, hbw3⟩ := HQ.out w3 HB3.out
    have HBW3 := Lib.hid hbw3
    obtain ⟨cc, W5, hcv, hb5, v5, W6, hap, hfin⟩ := run_append_str 23 w3 t4 BA bc b ((HRB.out.below hbw3).more hbw3.size) (by omega)
    have HFIN := Lib.hid hfin
    have HAP := Lib.hid hap
    have c5 := (HQ.out W5 (HB3.out.trans (hb5.mono HB3.out.size))).2.2.2.2.1
    have l5 := (HQ.out W5 (HB3.out.trans (hb5.mono HB3.out.size))).2.2.2.2.2.1
    clear hb3 hbw3 hfin hb5 hap
    go_wp2_with (at_builtin; refine wpList_append_run rfl _ _ _ rfl _ _ rfl rfl v5 W6 HAP.out ?_)
    go_ret2
    refine ⟨_, rfl, ?_⟩
    have h9 := HFIN.out
    rw [← HWH.out] at h9
    exact h9.up HBW3.out
set_option maxRecDepth 100000 in
set_option maxHeartbeats 4000000 in
theorem lask_no (m p h : List UInt8) (fs : List Fld) (nb : Nat) (hE : askE m p h fs nb ≠ 0) (hm : m.length ≤ 9223372036854775807) (hp : p.length ≤ 9223372036854775807) (hh : h.length ≤ 9223372036854775807) (hf : longOk fs) (hfl : fs.length ≤ 140737488355328) (FA : Option Addr) (fn fc : Nat) (hfn : fn = fs.length) (BA : Option Addr) (bc : Nat) (w : World) (hr : Reads w w.heap.size 2 FA fs.length (fvs fs)) :
    Calls Tryz.prog 6 #[.agg (reqV m p h FA fn fc BA nb bc)] w fun e w' => ∃ ty v, e = .returned (.tuple #[.slice none 0 0, .iface ty v]) ∧ Below w.heap.size w w' := by
  subst hfn
  obtain ⟨W, hW⟩ : ∃ W, w.alloc (.cells (reqV m p h FA fs.length fc BA nb bc) 25) = W := ⟨_, rfl⟩
  have hb := Blk.new w 25 (reqV m p h FA fs.length fc BA nb bc)
  have hba : Below w.heap.size w (w.alloc (.cells (reqV m p h FA fs.length fc BA nb bc) 25)) := (Below.refl _ _).alloc (Nat.le_refl _) _
  rw [hW] at hb hba
  have d0 := hb.cell 0
  have d1 := hb.cell 1
  have d2 := hb.cell 2
  have d3 := hb.cell 3
  have d4 := hb.cell 4
  have dl := hb.lt
  have HC := Lib.hid (show Calls Tryz.prog 26 #[.agg (reqV m p h FA fs.length fc BA nb bc)] W fun e w' => e = .returned (.iface 95 (.int .i64 ((askE m p h fs nb : Nat) : Int))) ∧ Below W.heap.size W w' from by
    have h0 := checkAsk_any m p h fs hm hp hh hf hfl FA fs.length fc rfl BA nb bc W ((hr.below hba).more hba.size)
    rw [errV_pos hE] at h0
    exact h0)
  have HBA := Lib.hid hba
  clear hE hm hp hh hf hfl hr hb hba
  go_enter Tryz.func6, Tryz.ntmps6
  go_wp2_with fail
  refine HC.out.mono ?_
  rintro e w1 ⟨rfl, hb1⟩
  have HB1 := Lib.hid (HBA.out.trans (hb1.mono HBA.out.size))
  clear hb1
  go_wp2
  go_ret2
  exact ⟨_, _, rfl, HB1.out⟩
end Go.Proofs.YtbgnggkgmeagkaaGreatDoor
namespace Go.Proofs.YtbgnggkgmeagkaaGreatDoor
open Go.RowKit

def isBetween (l : List UInt8) : Bool := l == [99, 111, 110, 110, 101, 99, 116, 105, 111, 110] || (l == [99, 111, 100, 105, 110, 103] || (l == [107, 101, 101, 112] || l == [117, 112, 103, 114, 97, 100, 101]))
set_option maxRecDepth 100000 in
set_option maxHeartbeats 1000000 in
theorem between_any (l : List UInt8) (w : World) :
    Calls Tryz.prog 48 #[.string ⟨l.toArray⟩] w fun e w' => e = .returned (.bool (isBetween l)) ∧ w = w' := by
  obtain ⟨a, ha⟩ : ∃ a, (l == [99, 111, 110, 110, 101, 99, 116, 105, 111, 110]) = a := ⟨_, rfl⟩
  obtain ⟨b, hb⟩ : ∃ b, (l == [99, 111, 100, 105, 110, 103]) = b := ⟨_, rfl⟩
  obtain ⟨c, hc⟩ : ∃ c, (l == [107, 101, 101, 112]) = c := ⟨_, rfl⟩
  obtain ⟨d, hd⟩ : ∃ d, (l == [117, 112, 103, 114, 97, 100, 101]) = d := ⟨_, rfl⟩
  have HE := Lib.hid (show isBetween l = (a || (b || (c || d))) by rw [← ha, ← hb, ← hc, ← hd]; rfl)
  cases a <;> cases b <;> cases c <;> cases d <;> (go_enter Tryz.func48, Tryz.ntmps48; go_wp2; go_ret; exact ⟨by rw [HE.out]; rfl, rfl⟩)
/-- How much the values are together. -/
def tot (l : List Fld) : Nat := (l.map fun f => f.2.length + 2).sum
theorem tot_append (a b : List Fld) : tot (a ++ b) = tot a + tot b := by simp [tot]
theorem tot_mem : ∀ (l : List Fld), ∀ f ∈ l, f.2.length ≤ tot l
  | g :: l, f, hf => by
    have e : tot (g :: l) = g.2.length + 2 + tot l := by simp [tot]
    rcases List.mem_cons.1 hf with rfl | hf
    · omega
    · have := tot_mem l f hf; omega
theorem tot_add : ∀ (l : List Fld) (i : Nat) (x : List UInt8), tot (addTo l i x) ≤ tot l + (x.length + 2)
  | [], _, _ => by simp [addTo, tot]
  | f :: l, 0, x => by simp [addTo, tot, sepC]; omega
  | f :: l, i + 1, x => by
    have := tot_add l i x
    show tot (f :: addTo l i x) ≤ _
    have e1 : tot (f :: addTo l i x) = f.2.length + 2 + tot (addTo l i x) := by simp [tot]
    have e2 : tot (f :: l) = f.2.length + 2 + tot l := by simp [tot]
    omega
theorem tot_accF (a : Acc) (f : Fld) : tot (accF a f).l ≤ tot a.l + (f.2.length + 2) := by
  unfold accF
  split
  · split
    · exact tot_add _ _ _
    · simp only [tot_append]; simp [tot]
  · simp only [tot_append]; simp [tot]
theorem tot_accL : ∀ (l : List Fld) (a : Acc), tot (accL a l).l ≤ tot a.l + tot l
  | [], a => by simp [accL, tot]
  | f :: l, a => by
    have h1 := tot_accL l (accF a f)
    have h2 := tot_accF a f
    have e : tot (f :: l) = f.2.length + 2 + tot l := by simp [tot]
    show tot (accL (accF a f) l).l ≤ _
    omega
theorem addTo_names : ∀ (l : List Fld) (i : Nat) (x : List UInt8), (addTo l i x).map Prod.fst = l.map Prod.fst
  | [], _, _ => rfl
  | f :: l, 0, x => rfl
  | f :: l, i + 1, x => by show f.1 :: (addTo l i x).map Prod.fst = _; rw [addTo_names l i x]; rfl
theorem accL_names (P : List UInt8 → Prop) : ∀ (l : List Fld) (a : Acc), (∀ f ∈ a.l, P f.1) → (∀ f ∈ l, P f.1) → ∀ f ∈ (accL a l).l, P f.1
  | [], a, ha, _ => ha
  | f :: l, a, ha, hl => by
    refine accL_names P l (accF a f) ?_ fun g hg => hl g (List.mem_cons_of_mem _ hg)
    have hf := hl f (List.mem_cons_self ..)
    unfold accF
    split
    · split
      · rename_i i _
        intro g hg
        have h1 : g.1 ∈ (addTo a.l i f.2).map Prod.fst := List.mem_map.2 ⟨g, hg, rfl⟩
        rw [addTo_names] at h1
        obtain ⟨g2, hg2, e⟩ := List.mem_map.1 h1
        rw [← e]
        exact ha g2 hg2
      · intro g hg
        rcases List.mem_append.1 hg with h | h
        · exact ha g h
        · rw [List.mem_singleton.1 h]; exact hf
    · intro g hg
      rcases List.mem_append.1 hg with h | h
      · exact ha g h
      · rw [List.mem_singleton.1 h]; exact hf
theorem accF_len (a : Acc) (f : Fld) : (accF a f).l.length ≤ a.l.length + 1 := by
  unfold accF
  split
  · split
    · simp only [addTo_len]; omega
    · simp
  · simp
theorem accL_len : ∀ (l : List Fld) (a : Acc), (accL a l).l.length ≤ a.l.length + l.length
  | [], a => by simp [accL]
  | f :: l, a => by
    have h1 := accL_len l (accF a f)
    have h2 := accF_len a f
    show (accL (accF a f) l).l.length ≤ _
    simp only [List.length_cons]
    omega
/-- Where the cookie stands is a place of the list. -/
def ckOk (a : Acc) : Prop := ∀ i, a.ck = some i → i < a.l.length
theorem ckOk_accF (a : Acc) (f : Fld) (h : ckOk a) : ckOk (accF a f) := by
  unfold accF
  split
  · split
    · rename_i i hi
      intro j hj
      cases hj
      simp only [addTo_len]
      exact h i hi
    · intro j hj
      cases hj
      simp
  · intro j hj
    have := h j hj
    simp
    omega
theorem ckOk_accL : ∀ (l : List Fld) (a : Acc), ckOk a → ckOk (accL a l)
  | [], _, h => h
  | f :: l, a, h => ckOk_accL l (accF a f) (ckOk_accF a f h)
def ckV : Option Nat → Value
  | none => .int .i64 (-1)
  | some i => .int .i64 ((i : Nat) : Int)
theorem accL_take (a : Acc) (l : List Fld) {k : Nat} (h : k < l.length) : accL a (l.take (k + 1)) = accF (accL a (l.take k)) l[k] := by
  rw [List.take_succ_eq_append_getElem h, accL_append]
  rfl
theorem addTo_fvs : ∀ (l : List Fld) (i : Nat) (x : List UInt8) (h : i < l.length), fvs (addTo l i x) = (fvs l).set (i * 2 + 1) (.string ⟨(l[i].2 ++ (sepC ++ x)).toArray⟩)
  | f :: l, 0, x, h => rfl
  | f :: l, i + 1, x, h => by
    show fvs (f :: addTo l i x) = _
    rw [fvs_cons, fvs_cons, addTo_fvs l i x (by simpa using h)]
    rw [show (i + 1) * 2 + 1 = (i * 2 + 1) + 1 + 1 by omega]
    rfl
/-- What fields.Ask hands back. -/
def FaPost (w : World) (m p h : List UInt8) (rest : List Fld) (b : List UInt8) (e : Ending) (w' : World) : Prop :=
  Below w.heap.size w w' ∧
  if rest.any (fun f => isBetween f.1) = true ∨ askE m p h (accL ⟨[], none⟩ rest).l b.length ≠ 0 then ∃ t u, e = .returned (.tuple #[.agg #[.string ⟨#[]⟩, .string ⟨#[]⟩, .string ⟨#[]⟩, .slice none 0 0, .slice none 0 0], .iface t u])
  else ∃ FA fc BA bc, e = .returned (.tuple #[.agg (reqV m p h FA (accL ⟨[], none⟩ rest).l.length fc BA b.length bc), .nilIface]) ∧
    w'.ownsRow w.heap.size 41 2 (.slice FA (accL ⟨[], none⟩ rest).l.length fc) (accL ⟨[], none⟩ rest).l.length (fvs (accL ⟨[], none⟩ rest).l) ∧
    w'.ownsRow w.heap.size 5 1 (.slice BA b.length bc) b.length (bs b)
end Go.Proofs.YtbgnggkgmeagkaaGreatDoor
