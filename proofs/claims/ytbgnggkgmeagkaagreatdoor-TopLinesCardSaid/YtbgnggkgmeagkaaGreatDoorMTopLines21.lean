/-
  line's reader: digits, where a numeral and a line's end stand. Condition: the number lies from 1 to 8000.
  line's reader: head, where fields and a length stand. Condition: the fields are such as line.fields lets through, at most 40.
  A request as fields, and back: cookies cut and joined. Plain laws, nothing of the program's code.
  line's reader: body, fault, where nothing is wrong. Condition: the bound on the bytes.
-/
import Derived.Test.YtbgnggkgmeagkaaGreatDoorMTopLines20
import Derived.Test.YtbgnggkgmeagkaaGreatDoorMTopLines04
import Derived.Deep.CutRange
import Derived.BigQuiet
import Derived.Test.YtbgnggkgmeagkaaGreatDoorMTopLines05
import Derived.Lib.Split
import Derived.Lib.SplitLaws
import Derived.IntWalk
import Derived.Laws.Entries
set_option linter.unusedSimpArgs false
set_option linter.unusedVariables false
namespace Go.Proofs.YtbgnggkgmeagkaaGreatDoor
open Go.RowKit

theorem dig_facts {y N N2 : Nat} (g1 : 48 ≤ y) (g2 : y ≤ 57) (h : N2 = 10 * N + (y - 48)) (h8 : N2 ≤ 8000) :
    (((y : Nat) : Int) == 13) = false ∧ decide (((y : Nat) : Int) < 48) = false ∧ decide ((57 : Int) < ((y : Nat) : Int)) = false ∧ ((N : Nat) : Int) ≤ 8000 ∧ (0 : Int) ≤ ((N : Nat) : Int) ∧ (48 : Int) ≤ ((y : Nat) : Int) ∧ ((y : Nat) : Int) ≤ 57 ∧
      ¬ (8000 : Int) < 10 * ((N : Nat) : Int) + (((y : Nat) : Int) - 48) ∧ decide ((8000 : Int) < 10 * ((N : Nat) : Int) + (((y : Nat) : Int) - 48)) = false :=
  ⟨beq_eq_false_iff_ne.2 (by omega), decide_eq_false (by omega), decide_eq_false (by omega), by omega, by omega, by omega, by omega, by omega, decide_eq_false (by omega)⟩
theorem dig_sum {y N N2 : Nat} (g1 : 48 ≤ y) (h : N2 = 10 * N + (y - 48)) : 10 * ((N : Nat) : Int) + (((y : Nat) : Int) - 48) = ((N2 : Nat) : Int) := by omega
theorem q_zero {q a k : Nat} (h : a + k = q) (hk : k < 1) : (((q : Nat) : Int) == ((a : Nat) : Int) + 1) = false ∧ (((q : Nat) : Int) == ((a : Nat) : Int)) = true :=
  ⟨beq_eq_false_iff_ne.2 (by omega), beq_iff_eq.2 (by omega)⟩
theorem q_one {q a k : Nat} (h : a + k = q) (hk : k = 1) : (((q : Nat) : Int) == ((a : Nat) : Int) + 1) = true ∧ (((q : Nat) : Int) == ((a : Nat) : Int)) = false :=
  ⟨beq_iff_eq.2 (by omega), beq_eq_false_iff_ne.2 (by omega)⟩
theorem q_two {q a k : Nat} (h : a + k = q) (hk : 2 ≤ k) : (((q : Nat) : Int) == ((a : Nat) : Int) + 1) = false ∧ (((q : Nat) : Int) == ((a : Nat) : Int)) = false :=
  ⟨beq_eq_false_iff_ne.2 (by omega), beq_eq_false_iff_ne.2 (by omega)⟩
theorem ne_nat {y n : Nat} (h : y ≠ n) : (((y : Nat) : Int) == ((n : Nat) : Int)) = false := beq_eq_false_iff_ne.2 (by omega)
set_option maxRecDepth 100000 in
set_option maxHeartbeats 4000000 in
theorem digits_rest {w : World} {R c at_ : Nat} {A : Option Addr} {l rest : List UInt8} (v : Nat) (h1 : 1 ≤ v) (h8 : v ≤ 8000) (h : RdR w R A l c at_ ([58, 32] ++ (Lib.decDigits v ++ ([13, 10] ++ rest)))) :
    Calls Tryz.prog 82 #[.pointer (some ⟨R, 0, none⟩), .int .i64 1, .int .i64 8000] w fun e w' => e = .returned (.int .i64 ((v : Nat) : Int)) ∧ (∃ a2, RdR w' R A l c a2 rest) ∧ BelowBut w.heap.size R w w' := by
  have HM := Lib.hid (rmatch_rest h)
  have hle := dec_len v 3 (by omega)
  obtain ⟨y1, t1, hfst, hy1⟩ := dec_first v h1
  have hrg := dec_range v
  have hval := digV_dec v
  have hpre : ∀ k, digV ((Lib.decDigits v).take k) ≤ 8000 := fun k => Nat.le_trans (digV_take_le _ k) (by rw [hval]; exact h8)
  obtain ⟨ds, hds⟩ : ∃ ds, Lib.decDigits v = ds := ⟨_, rfl⟩
  rw [hds] at HM hle hfst hrg hval hpre
  have HF := Lib.hid hfst
  have HRG := Lib.hid hrg
  have HV := Lib.hid hval
  have HP := Lib.hid hpre
  have hpos : 1 ≤ ds.length := by rw [hfst]; simp
  clear h hfst hrg hval hpre hds
  go_enter Tryz.func82, Tryz.ntmps82
  go_wp2_with fail
  refine HM.out.mono ?_
  rintro e w1 ⟨rfl, ⟨at1, hr1⟩, hb1⟩
  have c0 := hr1.rd.blk.cell 0
  have c1 := hr1.rd.blk.cell 1
  have c2 := hr1.rd.blk.cell 2
  have f1 := hr1.rd.blk.frozen 1
  have hl1 := hr1.rd.blk.lt
  have hln := hr1.len
  have hsm := hr1.rd.sm
  rw [List.length_append, List.length_append] at hln
  simp only [List.length_cons, List.length_nil] at hln
  have hlt0 : at1 + ds.length + 2 ≤ l.length := by omega
  clear hln
  have HB1 := Lib.hid hb1
  have HR1 := Lib.hid hr1
  clear hb1 hr1
  go_wp2_with fail
  go_loopg [6, 7] ds.length (fun m n i wr => ∃ k : Nat, m + k = ds.length ∧ n = .int .i64 ((digV (ds.take k) : Nat) : Int) ∧ i = .int .i64 ((at1 + k : Nat) : Int) ∧ wr = w1)
  case atStart => exact ⟨0, rfl, rfl, rfl, rfl⟩
  case round =>
    obtain ⟨k, hk, rfl, rfl, rfl⟩ := hrel
    obtain ⟨q, hq⟩ : ∃ q, at1 + k = q := ⟨_, rfl⟩
    have hql : q < l.length := by omega
    have hqi : ¬ ((l.length : Nat) : Int) ≤ ((q : Nat) : Int) := by omega
    have hqi2 := decide_eq_false hqi
    obtain ⟨b, off, hA, hbB, hcl⟩ := reads_byte HR1.out.rd.rd hql
    have hbw := Nat.lt_trans hbB hl1
    subst hA
    rw [hq]
    by_cases hlt : k < ds.length
    · have hy0 : l[q] = ds[k] := by
        have h := drop_get HR1.out.eq k hlt
        rw [hq, List.getElem?_eq_getElem hql] at h
        exact Option.some.inj h
      obtain ⟨g1, g2⟩ := HRG.out ds[k] (List.getElem_mem hlt)
      have hsn : digV (ds.take (k + 1)) = 10 * digV (ds.take k) + (ds[k].toNat - 48) := by rw [List.take_succ_eq_append_getElem hlt, digV_snoc]
      have hp1 := HP.out (k + 1)
      obtain ⟨N2, hN2⟩ : ∃ N2, digV (ds.take (k + 1)) = N2 := ⟨_, rfl⟩
      have hz : k = 0 → 49 ≤ ds[k].toNat := by
        rintro rfl
        have h := HF.out
        have : ds[0] = y1 := by simp [h]
        rw [this]; exact hy1
      have hone : k = 1 → 1 ≤ digV (ds.take k) := by
        rintro rfl
        have h := HF.out
        rw [h]
        show 1 ≤ 10 * 0 + (y1.toNat - 48)
        omega
      obtain ⟨N, hN⟩ : ∃ N, digV (ds.take k) = N := ⟨_, rfl⟩
      rw [hN] at hone hsn ⊢
      rw [hN2] at hsn hp1
      obtain ⟨y, hy⟩ : ∃ y, ds[k].toNat = y := ⟨_, rfl⟩
      rw [hy0, hy] at hcl
      rw [hy] at g1 g2 hz hsn
      obtain ⟨e13, e48, e57, u1, u2, u3, u4, u5, u6⟩ := dig_facts g1 g2 hsn hp1
      have HSU := Lib.hid (dig_sum g1 hsn)
      have HN2 := Lib.hid hN2
      have HQ := Lib.hid hq
      have ha1 : ((at1 : Nat) : Int) ≤ 140737488355328 := by omega
      have ha0 : (0 : Int) ≤ ((at1 : Nat) : Int) := by omega
      have hkk := hk
      clear hy0 hN hN2 hy hsn
      rcases Nat.lt_or_ge k 1 with hk0 | hk1
      · obtain ⟨e1, e2⟩ := q_zero hq hk0
        have e3 : (((y : Nat) : Int) == 48) = false := ne_nat (n := 48) (by have := hz (by omega); omega)
        clear hq hz hone
        go_wp2_with fail
        go_roundg (gk - 1)
        case measure => omega
        case rel => exact ⟨k + 1, by omega, by rw [HN2.out, ← HSU.out], by rw [← HQ.out]; go_num, rfl⟩
      · rcases Nat.lt_or_ge k 2 with hk2 | hk2
        · obtain ⟨e1, e2⟩ := q_one hq (show k = 1 by omega)
          have e3 : (((N : Nat) : Int) == 0) = false := ne_nat (n := 0) (by have := hone (by omega); omega)
          clear hq hz hone
          go_wp2_with fail
          go_roundg (gk - 1)
          case measure => omega
          case rel => exact ⟨k + 1, by omega, by rw [HN2.out, ← HSU.out], by rw [← HQ.out]; go_num, rfl⟩
        · obtain ⟨e1, e2⟩ := q_two hq hk2
          clear hq hz hone
          go_wp2_with fail
          go_roundg (gk - 1)
          case measure => omega
          case rel => exact ⟨k + 1, by omega, by rw [HN2.out, ← HSU.out], by rw [← HQ.out]; go_num, rfl⟩
    · have hkl : k = ds.length := by omega
      subst hkl
      have hy0 : l[q] = 13 := by
        have h := drop_get (s := ds ++ [13]) (r := 10 :: rest) (by rw [HR1.out.eq]; simp) ds.length (by simp)
        rw [hq, List.getElem?_eq_getElem hql] at h
        simpa using h
      rw [hy0] at hcl
      have hv : digV (ds.take ds.length) = v := by rw [List.take_length]; exact HV.out
      rw [hv]
      have e1 : decide (((at1 : Nat) : Int) < ((q : Nat) : Int)) = true := by simp; omega
      have e2 : ((at1 : Nat) : Int) < ((q : Nat) : Int) := by omega
      have e3 : (1 : Int) ≤ ((v : Nat) : Int) := by omega
      have e4 := decide_eq_true e3
      have hrest : RdR (wr.setCell ⟨R, 1, none⟩ (.int .i64 ((q : Nat) : Int))) R (some ⟨b, off, none⟩) l c q ([13, 10] ++ rest) := by
        refine ⟨⟨?_, HR1.out.rd.rd.setCell (p := ⟨R, 1, none⟩) (Nat.le_refl _) _, Nat.le_of_lt hql, HR1.out.rd.cap, HR1.out.rd.sm⟩, ?_⟩
        · have := HR1.out.rd.blk.set_ 1 (.int .i64 ((q : Nat) : Int))
          simpa using this
        · rw [← hq]
          exact drop_next HR1.out.eq
      have HN := Lib.hid (rneed_ok hrest.rd)
      have HM2 := Lib.hid (rmatch_rest hrest)
      have HB2 := Lib.hid ((HB1.out.trans ((BelowBut.refl wr.heap.size R wr).setCell (p := ⟨R, 1, none⟩) (.inl rfl) (.int .i64 ((q : Nat) : Int)) |> fun h => ⟨h.os, h.tape, h.output, h.size, fun i hi hg => h.block i (Nat.lt_of_lt_of_le hi HB1.out.size) hg⟩)))
      clear hy0 hv hrest hq
      go_wp2_with fail
      refine HN.out.mono ?_
      rintro e w2 ⟨rfl, rfl⟩
      go_wp2_with fail
      refine HM2.out.mono ?_
      rintro e w3 ⟨rfl, ⟨a3, hr3⟩, hb3⟩
      have HR3 := Lib.hid hr3
      have HB3 := Lib.hid (HB2.out.next2 hb3)
      clear hr3 hb3
      go_wp2
      go_ret
      exact ⟨rfl, ⟨a3, HR3.out⟩, HB3.out⟩
end Go.Proofs.YtbgnggkgmeagkaaGreatDoor
namespace Go.Proofs.YtbgnggkgmeagkaaGreatDoor
open Go.RowKit

structure HeadSt (w wr : World) (R : Nat) (A : Option Addr) (l : List UInt8) (c : Nat) (xs : List Fld) (v : Value) (rest : List UInt8) : Prop where
  own : wr.ownsRow w.heap.size 41 2 v xs.length (fvs xs)
  rd : ∃ a2, RdR wr R A l c a2 rest
  bb : BelowBut w.heap.size R w wr
  lt : R < w.heap.size
theorem HeadSt.next {w wr w' : World} {R c : Nat} {A : Option Addr} {l rest rest' : List UInt8} {xs : List Fld} {v : Value} (h : HeadSt w wr R A l c xs v rest) (hr : ∃ a2, RdR w' R A l c a2 rest') (hb : BelowBut wr.heap.size R wr w') : HeadSt w w' R A l c xs v rest' :=
  ⟨own_but h.own h.lt hb, hr, h.bb.next2 hb, h.lt⟩
theorem name_letters {l : List UInt8} (h : isName l = true) : l ≠ [] ∧ l.length ≤ 400 ∧ ∀ y ∈ l, smallL.contains y = true ∧ (58 : UInt8) ≠ y := by
  unfold isName isTok at h
  simp only [Bool.and_eq_true, decide_eq_true_eq] at h
  obtain ⟨⟨⟨h0, h1⟩, _⟩, h2⟩ := h
  refine ⟨h0, h1, fun y hy => ?_⟩
  have := List.all_eq_true.1 h2 y hy
  refine ⟨this, ?_⟩
  rintro rfl
  revert this
  decide
/-- What fields must be for line to read them back. -/
def goodF (f : Fld) : Prop := isName f.1 = true ∧ isPlain f.2 = true ∧ isOwn f.1 = false
theorem fldE_good : ∀ (l : List Fld), fldE l = 0 → ∀ f ∈ l, goodF f
  | [], _, f, hf => by cases hf
  | g :: l, h, f, hf => by
    unfold fldE at h
    split at h
    · cases h
    · split at h
      · cases h
      · rename_i h1 h2
        simp only [Bool.and_eq_false_iff, not_or, Bool.not_eq_false] at h1
        rcases List.mem_cons.1 hf with rfl | hf
        · exact ⟨h1.1, h1.2, by simpa using h2⟩
        · exact fldE_good l h f hf
theorem plain_len {s : List UInt8} (h : isPlain s = true) : s.length ≤ 400 := by
  unfold isPlain at h
  simp only [Bool.and_eq_true, decide_eq_true_eq] at h
  exact h.1.1
theorem good_short {l : List Fld} (hl : l.length ≤ 40) (h : ∀ f ∈ l, goodF f) : shortOk l :=
  ⟨hl, fun f hf => ⟨(name_letters (h f hf).1).2.1, plain_len (h f hf).2.1⟩⟩
def lenV (n : Nat) : Value := if n = 0 then .int .i64 (-1) else .int .i64 ((n : Nat) : Int)
theorem letters_length : ∀ y ∈ lengthL, smallL.contains y = true ∧ (58 : UInt8) ≠ y := by decide

set_option maxRecDepth 100000 in
set_option maxHeartbeats 4000000 in
theorem head_rest {w : World} {R c at_ : Nat} {A : Option Addr} {l rest : List UInt8} (fs : List Fld) (hf : ∀ f ∈ fs, goodF f) (h40 : fs.length ≤ 40) (nb : Nat) (hnb : nb ≤ 8000) (h : RdR w R A l c at_ (linesL fs ++ (lenL nb ++ ([13, 10] ++ rest)))) :
    Calls Tryz.prog 35 #[.pointer (some ⟨R, 0, none⟩), .int .i64 1, .bool false] w fun e w' => ∃ A2 c2, e = .returned (.tuple #[.slice A2 fs.length c2, lenV nb, .bool false]) ∧ HeadSt w w' R A l c fs (.slice A2 fs.length c2) rest := by
  have HF := Lib.hid hf
  have hlt := h.rd.blk.lt
  have hsm := h.rd.sm
  have HS := Lib.hid (show HeadSt w w R A l c [] (.slice none 0 0) (linesL fs ++ (lenL nb ++ ([13, 10] ++ rest))) from ⟨World.ownsRow_nil _ _ _ _, ⟨_, h⟩, BelowBut.refl _ _ _, hlt⟩)
  clear hf h
  go_enter Tryz.func35, Tryz.ntmps35
  go_wp2_with fail
  go_loopg [6, 7, 8] fs.length (fun m v v7 v8 wr => ∃ (k : Nat) (A2 : Option Addr) (c2 : Nat), m + k = fs.length ∧ v = .slice A2 k c2 ∧ v7 = .int .i64 (-1) ∧ v8 = .bool false ∧ Hid (HeadSt w wr R A l c (fs.take k) (.slice A2 k c2) (linesL (fs.drop k) ++ (lenL nb ++ ([13, 10] ++ rest)))))
  case atStart => exact ⟨0, none, 0, rfl, rfl, rfl, rfl, HS.out⟩
  case round =>
    clear HS
    obtain ⟨k, A2, c2, hk, rfl, rfl, rfl, HS⟩ := hrel
    obtain ⟨at1, hr1⟩ := HS.out.rd
    have c0 := hr1.rd.blk.cell 0
    have c1 := hr1.rd.blk.cell 1
    have c2' := hr1.rd.blk.cell 2
    have hl1 := hr1.rd.blk.lt
    have hkl : k ≤ fs.length := by omega
    have HK := Lib.hid hk
    clear hk
    by_cases hlt2 : k < fs.length
    · have hd : fs.drop k = fs[k] :: fs.drop (k + 1) := List.drop_eq_getElem_cons hlt2
      have hg := HF.out fs[k] (List.getElem_mem hlt2)
      have htk : fs.take (k + 1) = fs.take k ++ [fs[k]] := List.take_succ_eq_append_getElem hlt2
      obtain ⟨f, hfk⟩ : ∃ f, fs[k] = f := ⟨_, rfl⟩
      rw [hfk] at hd hg htk
      rw [hd] at hr1
      obtain ⟨f1, f2⟩ := f
      obtain ⟨g1, g2, g3⟩ := hg
      obtain ⟨n1, n2, n3⟩ := name_letters g1
      have hr2 : RdR wr R A l c at1 (f1 ++ 58 :: (32 :: (f2 ++ ([13, 10] ++ (linesL (fs.drop (k + 1)) ++ (lenL nb ++ ([13, 10] ++ rest))))))) := by
        have e : linesL ((f1, f2) :: fs.drop (k + 1)) ++ (lenL nb ++ ([13, 10] ++ rest)) = f1 ++ 58 :: (32 :: (f2 ++ ([13, 10] ++ (linesL (fs.drop (k + 1)) ++ (lenL nb ++ ([13, 10] ++ rest)))))) := by simp [linesL, lineL]
        rwa [e] at hr1
      obtain ⟨x, r, hx⟩ : ∃ x r, f1 = x :: r := by
        cases f1 with
        | nil => exact absurd rfl n1
        | cons x r => exact ⟨x, r, rfl⟩
      have hx13 : x ≠ 13 := by
        rintro rfl
        have := (n3 13 (by rw [hx]; simp)).1
        revert this
        decide
      obtain ⟨b, off, hA, hbR, hal, hcl⟩ := hr2.head (x := x) (r := r ++ 58 :: (32 :: (f2 ++ ([13, 10] ++ (linesL (fs.drop (k + 1)) ++ (lenL nb ++ ([13, 10] ++ rest))))))) (by rw [hx]; rfl)
      have hxn : ((((x.toNat : Nat) : Int) == 13)) = false := ne_nat (n := 13) fun e => hx13 (UInt8.toNat_inj.1 (by rw [e]; rfl))
      obtain ⟨X, hX⟩ : ∃ X, x.toNat = X := ⟨_, rfl⟩
      rw [hX] at hcl hxn
      have hai : ((at1 : Nat) : Int) < ((l.length : Nat) : Int) := by omega
      have hbw := Nat.lt_trans hbR hl1
      subst hA
      have HU := Lib.hid (until_letter (hr2.next ((Below.refl _ _).drew)) n3 n2)
      have e0 : f1.isEmpty = false := by rw [hx]; rfl
      have hown : isOwn f1 = (f1 == hostL || (f1 == lengthL || f1 == codingL)) := rfl
      rw [g3] at hown
      have o1 : (f1 == [104, 111, 115, 116]) = false := by
        cases h : (f1 == hostL) with
        | true => rw [h] at hown; simp at hown
        | false => exact h
      have o2 : (f1 == [108, 101, 110, 103, 116, 104]) = false := by
        cases h : (f1 == lengthL) with
        | true => rw [h] at hown; simp at hown
        | false => exact h
      have o3 : (f1 == [99, 111, 100, 105, 110, 103]) = false := by
        cases h : (f1 == codingL) with
        | true => rw [h] at hown; simp at hown
        | false => exact h
      have HO := Lib.hid (show ∀ w1, Calls Tryz.prog 83 #[.string ⟨f1.toArray⟩] w1 fun e w' => e = .returned (.bool false) ∧ w1 = w' from fun w1 => by rw [← g3]; exact own_any f1 w1)
      have hk40 : (((k : Nat) : Int) == 40) = false := ne_nat (n := 40) (by omega)
      have HTK := Lib.hid htk
      have HG2 := Lib.hid g2
      clear hr1 hr2 hd hfk g1 g2 g3 hx hx13 hX hown n1 n2 n3 htk
      go_wp2_with fail
      go_region
      go_wp2_with fail
      refine HU.out.mono ?_
      rintro e w1 ⟨rfl, ⟨a3, hr3⟩, hb3⟩
      have d0 := hr3.rd.blk.cell 0
      have d1 := hr3.rd.blk.cell 1
      have d2 := hr3.rd.blk.cell 2
      have hl3 := hr3.rd.blk.lt
      have HN := Lib.hid (rneed_ok hr3.rd)
      have HV := Lib.hid (value_rest (s := f2) (rest := linesL (fs.drop (k + 1)) ++ (lenL nb ++ ([13, 10] ++ rest))) (show RdR w1 R (some ⟨b, off, none⟩) l c a3 ([58, 32] ++ f2 ++ [13, 10] ++ (linesL (fs.drop (k + 1)) ++ (lenL nb ++ ([13, 10] ++ rest)))) by
        have e : ([58, 32] ++ f2 ++ [13, 10] ++ (linesL (fs.drop (k + 1)) ++ (lenL nb ++ ([13, 10] ++ rest))) : List UInt8) = 58 :: (32 :: (f2 ++ ([13, 10] ++ (linesL (fs.drop (k + 1)) ++ (lenL nb ++ ([13, 10] ++ rest)))))) := by simp
        rw [e]; exact hr3) HG2.out)
      have HS3 := Lib.hid (HS.out.next ⟨a3, hr3⟩ ((BelowBut.refl wr.heap.size R wr).drew.next2 hb3))
      clear hr3 hb3
      go_wp2_with fail
      refine HN.out.mono ?_
      rintro e w2 ⟨rfl, rfl⟩
      go_wp2_with fail
      refine (HO.out _).mono ?_
      rintro e w2 ⟨rfl, rfl⟩
      go_wp2_with fail
      refine HV.out.mono ?_
      rintro e w4 ⟨rfl, hr4, hb4⟩
      have HS4 := Lib.hid (HS3.out.next hr4 hb4)
      have hbs := HS4.out.bb.size
      have htl : (fs.take k).length = k := by rw [List.length_take]; omega
      have HO4 := Lib.hid (show w4.ownsRow w.heap.size 41 2 (.slice A2 k c2) k (fvs (fs.take k)) by have := HS4.out.own; rwa [htl] at this)
      clear hr4 hb4 htl
      go_wp2_with (at_builtin; refine wpList_pushF rfl _ _ rfl w.heap.size _ _ (fs.take k) rfl HO4.out (f1, f2) _ rfl rfl (by omega) hbs ?_; intro A5 c5 w5 hown5 hb5 hc5; have HO5 := Lib.hid hown5; have HB5 := Lib.hid hb5; clear hown5 hb5 hc5)
      go_roundg (gk - 1)
      case measure => have := HK.out; omega
      case rel =>
        refine ⟨k + 1, A5, c5, by have := HK.out; omega, rfl, rfl, rfl, ?_, ?_, ?_, ?_⟩
        · rw [HTK.out, List.length_append, List.length_take, Nat.min_eq_left (by omega)]
          exact HO5.out
        · obtain ⟨a6, hr6⟩ := HS4.out.rd
          exact ⟨a6, ⟨hr6.rd.blk.below HB5.out HS4.out.lt, hr6.rd.rd.below (HB5.out.mono (Nat.le_of_lt HS4.out.lt)), hr6.rd.le, hr6.rd.cap, hr6.rd.sm⟩, hr6.eq⟩
        · exact HS4.out.bb.trans (BelowBut.of HB5.out)
        · exact HS4.out.lt
    · have hk2 : k = fs.length := by omega
      subst hk2
      have he : linesL (fs.drop fs.length) = [] := by rw [List.drop_length]; rfl
      rw [he, List.nil_append] at hr1
      rcases Nat.eq_zero_or_pos nb with h0 | h0
      · subst h0
        have hr2 : RdR wr R A l c at1 ([13, 10] ++ rest) := hr1
        obtain ⟨b, off, hA, hbR, hal, hcl⟩ := hr2.head rfl
        have hai : ((at1 : Nat) : Int) < ((l.length : Nat) : Int) := by omega
        have hbw := Nat.lt_trans hbR hl1
        subst hA
        have HR2 := Lib.hid (show RdR wr.drew R (some ⟨b, off, none⟩) l c at1 ([13, 10] ++ rest) from hr2.next ((Below.refl _ _).drew))
        clear hr1 hr2 he
        go_wp2_with fail
        go_region
        go_wp2_with fail
        refine (rmatch_rest HR2.out).mono ?_
        rintro e w1 ⟨rfl, hr3, hb3⟩
        have HS3 := Lib.hid (HS.out.next hr3 ((BelowBut.refl wr.heap.size R wr).drew.next2 hb3))
        clear hr3 hb3
        go_wp2
        go_ret3
        refine ⟨A2, c2, rfl, ?_⟩
        have := HS3.out
        rwa [List.take_length] at this
      · have hlen : lenL nb = lengthL ++ ([58, 32] ++ (Lib.decDigits nb ++ [13, 10])) := by unfold lenL; rw [if_neg (by omega)]
        rw [hlen] at hr1
        have hr2 : RdR wr R A l c at1 (lengthL ++ 58 :: (32 :: (Lib.decDigits nb ++ ([13, 10] ++ ([13, 10] ++ rest))))) := by
          have e : lengthL ++ ([58, 32] ++ (Lib.decDigits nb ++ [13, 10])) ++ ([13, 10] ++ rest) = lengthL ++ 58 :: (32 :: (Lib.decDigits nb ++ ([13, 10] ++ ([13, 10] ++ rest)))) := by simp
          rwa [e] at hr1
        obtain ⟨b, off, hA, hbR, hal, hcl⟩ := hr2.head (x := 108) rfl
        have hai : ((at1 : Nat) : Int) < ((l.length : Nat) : Int) := by omega
        have hbw := Nat.lt_trans hbR hl1
        subst hA
        have HU := Lib.hid (until_letter (hr2.next ((Below.refl _ _).drew)) letters_length (by decide))
        clear hr1 hr2 he hlen
        go_wp2_with fail
        go_region
        go_wp2_with fail
        refine HU.out.mono ?_
        rintro e w1 ⟨rfl, ⟨a3, hr3⟩, hb3⟩
        have d0 := hr3.rd.blk.cell 0
        have d1 := hr3.rd.blk.cell 1
        have d2 := hr3.rd.blk.cell 2
        have hl3 := hr3.rd.blk.lt
        have HN := Lib.hid (rneed_ok hr3.rd)
        have HD := Lib.hid (digits_rest (rest := [13, 10] ++ rest) nb h0 hnb (show RdR w1 R (some ⟨b, off, none⟩) l c a3 ([58, 32] ++ (Lib.decDigits nb ++ ([13, 10] ++ ([13, 10] ++ rest)))) from hr3))
        have HS3 := Lib.hid (HS.out.next ⟨a3, hr3⟩ ((BelowBut.refl wr.heap.size R wr).drew.next2 hb3))
        clear hr3 hb3
        go_wp2_with fail
        refine HN.out.mono ?_
        rintro e w2 ⟨rfl, rfl⟩
        go_wp2_with fail
        refine HD.out.mono ?_
        rintro e w4 ⟨rfl, ⟨a4, hr4⟩, hb4⟩
        have HS4 := Lib.hid (HS3.out.next ⟨a4, hr4⟩ hb4)
        have HM := Lib.hid (rmatch_rest (s := [13, 10]) (rest := rest) hr4)
        clear hr4 hb4
        go_wp2_with fail
        refine HM.out.mono ?_
        rintro e w5 ⟨rfl, hr5, hb5⟩
        have HS5 := Lib.hid (HS4.out.next hr5 hb5)
        clear hr5 hb5
        go_wp2
        go_ret3
        have hv : lenV nb = .int .i64 ((nb : Nat) : Int) := by unfold lenV; rw [if_neg (by omega)]
        rw [hv]
        refine ⟨A2, c2, rfl, ?_⟩
        have := HS5.out
        rwa [List.take_length] at this
end Go.Proofs.YtbgnggkgmeagkaaGreatDoor
namespace Go.Proofs.YtbgnggkgmeagkaaGreatDoor
open Go.RowKit

def cookieL : List UInt8 := [99, 111, 111, 107, 105, 101]
def sepC : List UInt8 := [59, 32]
def cutC (v : List UInt8) : List (List UInt8) := Lib.splitK sepC 0 (Lib.count v sepC) v
def joinT : List (List UInt8) → List UInt8
  | [] => []
  | x :: xs => sepC ++ x ++ joinT xs
def joinC : List (List UInt8) → List UInt8
  | [] => []
  | x :: xs => x ++ joinT xs
theorem index_hit : ∀ (s sub : List UInt8) (i : Nat), Lib.index s sub = (i : Int) → s = s.take i ++ (sub ++ s.drop (i + sub.length))
  | [], sub, i, h => by
    unfold Lib.index at h
    split at h
    · rename_i he
      have : sub = [] := by simpa using he
      subst this
      simp
    · omega
  | b :: l, sub, i, h => by
    unfold Lib.index at h
    split at h
    · rename_i hp
      have hi : i = 0 := by omega
      subst hi
      rw [List.isPrefixOf_iff_prefix] at hp
      obtain ⟨t, ht⟩ := hp
      rw [← ht]
      simp
    · split at h
      · omega
      · have hi : ∃ j : Nat, i = j + 1 := ⟨i - 1, by
          have := Lib.index_ge l sub
          rename_i h1 h2
          have h3 : Lib.index l sub ≠ -1 := by simpa using h2
          omega⟩
        obtain ⟨j, rfl⟩ := hi
        have := index_hit l sub j (by omega)
        rw [show j + 1 + sub.length = (j + sub.length) + 1 by omega]
        simp only [List.take_succ_cons, List.drop_succ_cons, List.cons_append]
        rw [← this]
theorem splitK_cons (sep : List UInt8) : ∀ (k : Nat) (s : List UInt8), ∃ x xs, Lib.splitK sep 0 k s = x :: xs ∧ x.length ≤ s.length
  | 0, s => ⟨s, [], rfl, Nat.le_refl _⟩
  | k + 1, s => by
    unfold Lib.splitK
    split
    · exact ⟨s, [], rfl, Nat.le_refl _⟩
    · exact ⟨_, _, rfl, by rw [List.length_take]; omega⟩
theorem joinT_split : ∀ (k : Nat) (s : List UInt8), joinC (Lib.splitK sepC 0 k s) = s
  | 0, s => by simp [Lib.splitK, joinC, joinT]
  | k + 1, s => by
    unfold Lib.splitK
    split
    · simp [joinC, joinT]
    · rename_i h
      have h2 : Lib.index s sepC ≠ -1 := by simpa using h
      have h3 := Lib.index_ge s sepC
      obtain ⟨i, hi⟩ : ∃ i : Nat, Lib.index s sepC = (i : Int) := ⟨(Lib.index s sepC).toNat, by omega⟩
      have e : (Lib.index s sepC).toNat = i := by omega
      rw [e, Nat.add_zero]
      obtain ⟨x, xs, hx, _⟩ := splitK_cons sepC k (s.drop (i + sepC.length))
      have ih := joinT_split k (s.drop (i + sepC.length))
      rw [hx] at ih ⊢
      show s.take i ++ (sepC ++ x ++ joinT xs) = s
      have ih2 : x ++ joinT xs = s.drop (i + sepC.length) := ih
      rw [List.append_assoc, ih2]
      exact (index_hit s sepC i hi).symm
theorem join_cut (v : List UInt8) : joinC (cutC v) = v := joinT_split _ v
theorem cut_ne (v : List UInt8) : cutC v ≠ [] := by
  obtain ⟨x, xs, h, _⟩ := splitK_cons sepC (Lib.count v sepC) v
  unfold cutC
  rw [h]
  simp
theorem splitK_small (sep : List UInt8) : ∀ (k : Nat) (s : List UInt8), ∀ x ∈ Lib.splitK sep 0 k s, x.length ≤ s.length
  | 0, s, x, hx => by
    simp only [Lib.splitK, List.mem_singleton] at hx
    rw [hx]
    exact Nat.le_refl _
  | k + 1, s, x, hx => by
    unfold Lib.splitK at hx
    split at hx
    · simp only [List.mem_singleton] at hx
      rw [hx]
      exact Nat.le_refl _
    · rcases List.mem_cons.1 hx with rfl | hx
      · rw [List.length_take]; omega
      · have := splitK_small sep k _ x hx
        rw [List.length_drop] at this
        omega
theorem splitK_len (sep : List UInt8) : ∀ (k : Nat) (s : List UInt8), (Lib.splitK sep 0 k s).length ≤ k + 1
  | 0, s => Nat.le_refl _
  | k + 1, s => by
    unfold Lib.splitK
    split
    · simp
    · have := splitK_len sep k (s.drop ((Lib.index s sep).toNat + sep.length))
      simp only [List.length_cons]
      omega
/-- A field of a request as fields. -/
def expF (f : Fld) : List Fld := if f.1 = cookieL then (cutC f.2).map fun x => (cookieL, x) else [f]
def expL (fs : List Fld) : List Fld := fs.flatMap expF
def methL : List UInt8 := [58, 109, 101, 116, 104, 111, 100]
def pathL : List UInt8 := [58, 112, 97, 116, 104]
def chostL : List UInt8 := [58, 104, 111, 115, 116]
def listL (m p h : List UInt8) (fs : List Fld) : List Fld := (methL, m) :: (pathL, p) :: (chostL, h) :: expL fs
theorem expL_append (a b : List Fld) : expL (a ++ b) = expL a ++ expL b := by simp [expL]
theorem listL_append (m p h : List UInt8) (a b : List Fld) : listL m p h (a ++ b) = listL m p h a ++ expL b := by simp [listL, expL_append]
/-- Back: what is read so far, where the cookie stands. -/
structure Acc where
  l : List Fld
  ck : Option Nat
def addTo : List Fld → Nat → List UInt8 → List Fld
  | [], _, _ => []
  | f :: l, 0, x => (f.1, f.2 ++ (sepC ++ x)) :: l
  | f :: l, i + 1, x => f :: addTo l i x
def accF (a : Acc) (f : Fld) : Acc :=
  if f.1 = cookieL then
    match a.ck with
    | some i => ⟨addTo a.l i f.2, some i⟩
    | none => ⟨a.l ++ [f], some a.l.length⟩
  else ⟨a.l ++ [f], a.ck⟩
def accL (a : Acc) (l : List Fld) : Acc := l.foldl accF a
theorem accL_append (a : Acc) (x y : List Fld) : accL a (x ++ y) = accL (accL a x) y := by simp [accL]
theorem addTo_last (l : List Fld) (f : Fld) (x : List UInt8) : addTo (l ++ [f]) l.length x = l ++ [(f.1, f.2 ++ (sepC ++ x))] := by
  induction l with
  | nil => rfl
  | cons g l ih => show g :: addTo (l ++ [f]) l.length x = _; rw [ih]; rfl
theorem addTo_len (l : List Fld) (i : Nat) (x : List UInt8) : (addTo l i x).length = l.length := by
  induction l generalizing i with
  | nil => rfl
  | cons g l ih => cases i with
    | zero => rfl
    | succ i => show (addTo l i x).length + 1 = _; rw [ih]; rfl
theorem accL_more (l : List Fld) (v : List UInt8) : ∀ (xs : List (List UInt8)), accL ⟨l ++ [(cookieL, v)], some l.length⟩ (xs.map fun x => (cookieL, x)) = ⟨l ++ [(cookieL, v ++ joinT xs)], some l.length⟩ := by
  intro xs
  induction xs generalizing v with
  | nil => simp [accL, joinT]
  | cons x xs ih =>
    have h1 : accF ⟨l ++ [(cookieL, v)], some l.length⟩ (cookieL, x) = ⟨l ++ [(cookieL, v ++ (sepC ++ x))], some l.length⟩ := by
      simp only [accF, if_pos]
      rw [addTo_last]
    show accL (accF _ (cookieL, x)) (xs.map _) = _
    rw [h1, ih]
    simp [joinT]
theorem accL_plain : ∀ (fs : List Fld) (a : Acc), (∀ f ∈ fs, f.1 ≠ cookieL) → accL a (expL fs) = ⟨a.l ++ fs, a.ck⟩
  | [], a, _ => by simp [expL, accL]
  | f :: fs, a, h => by
    have hf := h f (List.mem_cons_self ..)
    have e : expL (f :: fs) = [f] ++ expL fs := by
      show expF f ++ expL fs = _
      unfold expF
      rw [if_neg hf]
    rw [e, accL_append, accL_plain fs _ fun g hg => h g (List.mem_cons_of_mem _ hg)]
    show (⟨(accF a f).l ++ fs, (accF a f).ck⟩ : Acc) = _
    unfold accF
    rw [if_neg hf]
    simp
def cookies (fs : List Fld) : Nat := (fs.filter fun f => f.1 == cookieL).length
theorem accL_one : ∀ (fs : List Fld) (l : List Fld), cookies fs ≤ 1 → ∃ ck, accL ⟨l, none⟩ (expL fs) = ⟨l ++ fs, ck⟩
  | [], l, _ => ⟨none, by simp [expL, accL]⟩
  | f :: fs, l, h => by
    by_cases hf : f.1 = cookieL
    · have h0 : cookies fs = 0 := by
        unfold cookies at h ⊢
        rw [List.filter_cons_of_pos (by simpa using hf)] at h
        simp only [List.length_cons] at h
        omega
      have hno : ∀ g ∈ fs, g.1 ≠ cookieL := by
        intro g hg he
        unfold cookies at h0
        have := List.eq_nil_of_length_eq_zero h0
        have h2 : g ∈ fs.filter fun f => f.1 == cookieL := List.mem_filter.2 ⟨hg, by simpa using he⟩
        rw [this] at h2
        cases h2
      obtain ⟨x, xs, hx, _⟩ := splitK_cons sepC (Lib.count f.2 sepC) f.2
      have hj : x ++ joinT xs = f.2 := by
        have := join_cut f.2
        unfold cutC at this
        rw [hx] at this
        exact this
      have e : expL (f :: fs) = ((cookieL, x) :: xs.map fun x => (cookieL, x)) ++ expL fs := by
        show expF f ++ expL fs = _
        unfold expF cutC
        rw [if_pos hf, hx]
        rfl
      rw [e, accL_append]
      have h1 : accL ⟨l, none⟩ ((cookieL, x) :: xs.map fun x => (cookieL, x)) = ⟨l ++ [f], some l.length⟩ := by
        show accL (accF ⟨l, none⟩ (cookieL, x)) (xs.map _) = _
        have : accF ⟨l, none⟩ (cookieL, x) = ⟨l ++ [(cookieL, x)], some l.length⟩ := by simp [accF]
        rw [this, accL_more, hj]
        have : f = (cookieL, f.2) := by rw [← hf]
        rw [← this]
      rw [h1, accL_plain fs _ hno]
      exact ⟨some l.length, by simp⟩
    · have h0 : cookies fs ≤ 1 := by
        unfold cookies at h ⊢
        rw [List.filter_cons_of_neg (by simpa using hf)] at h
        exact h
      have e : expL (f :: fs) = [f] ++ expL fs := by
        show expF f ++ expL fs = _
        unfold expF
        rw [if_neg hf]
      obtain ⟨ck, hck⟩ := accL_one fs (l ++ [f]) h0
      refine ⟨ck, ?_⟩
      rw [e, accL_append]
      have : accL ⟨l, none⟩ [f] = ⟨l ++ [f], none⟩ := by
        show accF ⟨l, none⟩ f = _
        unfold accF
        rw [if_neg hf]
      rw [this, hck]
      simp
end Go.Proofs.YtbgnggkgmeagkaaGreatDoor
namespace Go.Proofs.YtbgnggkgmeagkaaGreatDoor
open Go.RowKit

theorem rd_at_sum {at_ n q L : Nat} (h : at_ + n = q) (hq : q ≤ L) (hL : L ≤ 140737488355328) : wrap64 (((at_ : Nat) : Int) + ((n : Nat) : Int)) = ((q : Nat) : Int) ∧ wrap64 (((q : Nat) : Int) - ((n : Nat) : Int)) = ((at_ : Nat) : Int) ∧ ((q : Nat) : Int) - ((n : Nat) : Int) = ((at_ : Nat) : Int) ∧ ((at_ : Nat) : Int) + ((n : Nat) : Int) = ((q : Nat) : Int) ∧
    decide (((L : Nat) : Int) - ((at_ : Nat) : Int) < ((n : Nat) : Int)) = false ∧ wrap64 (((L : Nat) : Int) - ((at_ : Nat) : Int)) = ((L : Nat) : Int) - ((at_ : Nat) : Int) := by
  refine ⟨by unfold wrap64; omega, by unfold wrap64; omega, by omega, by omega, decide_eq_false (by omega), by unfold wrap64; omega⟩
set_option maxRecDepth 100000 in
set_option maxHeartbeats 4000000 in
theorem body_rest {w : World} {R c at_ : Nat} {A : Option Addr} {l rest : List UInt8} (b : List UInt8) (hb0 : 0 < b.length) (h : RdR w R A l c at_ (b ++ rest)) :
    Calls Tryz.prog 36 #[.pointer (some ⟨R, 0, none⟩), .int .i64 ((b.length : Nat) : Int)] w fun e w' => ∃ A2 c2, e = .returned (.slice A2 b.length c2) ∧ w'.ownsRow w.heap.size 5 1 (.slice A2 b.length c2) b.length (bs b) ∧ (∃ a2, RdR w' R A l c a2 rest) ∧ BelowBut w.heap.size R w w' := by
  have c0 := h.rd.blk.cell 0
  have c1 := h.rd.blk.cell 1
  have c2 := h.rd.blk.cell 2
  have f1 := h.rd.blk.frozen 1
  have hl1 := h.rd.blk.lt
  have hsm := h.rd.sm
  have hcap := h.rd.cap
  have hle := drop_le h.eq h.rd.le
  obtain ⟨bb, off, hA, hbR, hal, hcl⟩ := h.head (x := b[0]) (r := b.drop 1 ++ rest) (by
    have : b = b[0] :: b.drop 1 := by
      cases b with
      | nil => simp at hb0
      | cons x t => rfl
    rw [← List.cons_append, ← this])
  subst hA
  obtain ⟨q, hq⟩ : ∃ q, at_ + b.length = q := ⟨_, rfl⟩
  rw [hq] at hle
  obtain ⟨u1, u2, u3, u4, u5, u6⟩ := rd_at_sum hq hle hsm
  have u7 : IntKind.i64.wrap ((at_ : Nat) : Int) = ((at_ : Nat) : Int) := IntWalk.i64_in _ (by omega)
  have hmid := reads_mid (at_ := at_) (n := b.length) (c := c) h.rd.rd (by omega) hcap
  rw [if_neg (by omega)] at hmid
  have hbe : (l.drop at_).take b.length = b := by rw [h.eq]; simp
  rw [hbe] at hmid
  obtain ⟨W, hW⟩ : ∃ W, w.setCell ⟨R, 1, none⟩ (.int .i64 ((q : Nat) : Int)) = W := ⟨_, rfl⟩
  have hbW : BelowBut w.heap.size R w W := by rw [← hW]; exact (BelowBut.refl w.heap.size R w).setCell (p := ⟨R, 1, none⟩) (.inl rfl) _
  have hrW : RdR W R (some ⟨bb, off, none⟩) l c q rest := by
    rw [← hW]
    refine ⟨⟨?_, h.rd.rd.setCell (p := ⟨R, 1, none⟩) (Nat.le_refl _) _, hle, hcap, hsm⟩, ?_⟩
    · have := h.rd.blk.set_ 1 (.int .i64 ((q : Nat) : Int))
      simpa using this
    · rw [← hq]; exact drop_next h.eq
  have hmW : Reads W R 1 (some ⟨bb, off + at_, none⟩) b.length (bs b) := by rw [← hW]; exact hmid.setCell (p := ⟨R, 1, none⟩) (Nat.le_refl _) _
  have d0 := hrW.rd.blk.cell 0
  have d1 := hrW.rd.blk.cell 1
  have dl := hrW.rd.blk.lt
  have HC := Lib.hid (show ∀ w1, Below W.heap.size W w1 → Calls Tryz.prog 46 #[.slice (some ⟨bb, off + at_, none⟩) b.length (c - at_)] w1 fun e w' => ∃ A' c', e = .returned (.slice A' b.length c') ∧ w'.ownsRow w1.heap.size 5 1 (.slice A' b.length c') b.length (bs b) ∧ Below w1.heap.size w1 w' from fun w1 hb => clone_any (some ⟨bb, off + at_, none⟩) b b.length (c - at_) rfl (fun h => by cases h) (by omega) w1 ((hmW.below (hb.mono (Nat.le_of_lt dl))).more (Nat.le_trans (Nat.le_of_lt dl) hb.size)))
  have HRW := Lib.hid hrW
  have HBW := Lib.hid hbW
  have HW := Lib.hid hW
  have hqc : q ≤ c := by omega
  have hca : ¬ c = at_ := by omega
  have haq : at_ ≤ q := by omega
  have haq2 : ((at_ : Nat) : Int) ≤ ((q : Nat) : Int) := by omega
  have hqc2 : ((q : Nat) : Int) ≤ ((c : Nat) : Int) := by omega
  have hqa : q - at_ = b.length := by omega
  have hbw : bb < w.heap.size := by omega
  clear hbW hrW hmW hmid hbe hq h hcl
  go_enter Tryz.func36, Tryz.ntmps36
  go_wp2_with fail
  go_region
  go_wp2_with fail
  go_region_with (go_at_call 46; refine (HC.out _ (Below.refl _ _).drew.drew).mono ?_; rintro e w1 ⟨A2, cc2, rfl, hown, hb1⟩; have HO := Lib.hid hown; have HB1 := Lib.hid hb1; clear hown hb1)
  all_goals
    go_wp2
    go_ret
    have hb2 : Below W.heap.size W w1 := (Below.refl _ _).drew.drew.trans HB1.out
    refine ⟨A2, cc2, rfl, ?_, ⟨q, HRW.out.next hb2⟩, HBW.out.next2 (BelowBut.of hb2)⟩
    exact own_down HO.out HBW.out.size
set_option maxRecDepth 100000 in
set_option maxHeartbeats 1000000 in
theorem fault_ok {w : World} {R : Nat} {A : Option Addr} {l : List UInt8} {c at_ : Nat} (h : RdAt w R A l c at_) :
    Calls Tryz.prog 37 #[.pointer (some ⟨R, 0, none⟩)] w fun e w' => e = .returned .nilIface ∧ w = w' := by
  have c0 := h.blk.cell 0
  have c2 := h.blk.cell 2
  have hl := h.blk.lt
  clear h
  have q := run_eql_iface_nil_left (P := Tryz.prog) (w := w) 95 (.int .i64 8) Tryz.underlying28
  go_enter Tryz.func37, Tryz.ntmps37
  go_wp2
  go_ret
  exact ⟨rfl, rfl⟩
end Go.Proofs.YtbgnggkgmeagkaaGreatDoor
