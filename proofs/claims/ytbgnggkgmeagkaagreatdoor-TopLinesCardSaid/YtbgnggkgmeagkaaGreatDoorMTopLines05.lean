/-
  'append(l, f)', f a field just laid, onto a row of the call's own. Condition: the row is small.
  code.Decode by its contract. Condition: the bound on the bytes' length.
-/
import Derived.Test.YtbgnggkgmeagkaaGreatDoorMTopLines03
import Derived.Test.YtbgnggkgmeagkaaGreatDoorMTopLines04
import Derived.Test.YtbgnggkgmeagkaaGreatDoorMTopLines02
set_option linter.unusedSimpArgs false
set_option linter.unusedVariables false
namespace Go.Proofs.YtbgnggkgmeagkaaGreatDoor
open Go.RowKit

theorem two_new (w : World) (a b : Value) (t : TypeId) : Reads (w.alloc (.cells #[a, b] t)) (w.heap.size + 1) 2 (some ⟨w.heap.size, 0, none⟩) 1 [a, b] := by
  refine ⟨rfl, fun _ => ⟨_, rfl, Nat.lt_succ_self _, fun j u hu => ?_⟩⟩
  rw [Addr.add_lit, Nat.zero_add, cell_of_row _ _ _ _ _ _ (heap_alloc_new w _)]
  simpa using hu
theorem wpList_pushF {ops : Array Oper} {rest : List Oper} {o : Oper} {a : Act} {Q : Exit → Act → World → Prop} {w : World} (hgd : o.guard = none) (s x : Operand)
    (ho : o.op = .call { callee := .builtin .append, args := #[s, x], argTypes := #[22, 22] })
    (base : Nat) (v : Value) (n : Nat) (xs : List Fld) (hs : a.eval s = v) (hown : w.ownsRow base 41 2 v n (fvs xs)) (f : Fld)
    (z : Nat) (hx : a.eval x = .slice (some ⟨z, 0, none⟩) 1 1) (hz : z = w.heap.size) (hn : n + 1 ≤ 1000000) (hbase : base ≤ w.heap.size)
    (h : ∀ A' c' w', w'.ownsRow base 41 2 (.slice A' (n + 1) c') (n + 1) (fvs (xs ++ [f])) → Below base w w' → n + 1 ≤ c' → wpList Tryz.prog ops Q rest (a.put o.dst (.slice A' (n + 1) c')) w') :
    wpList Tryz.prog ops Q (o :: rest) a (w.alloc (.cells #[.string ⟨f.1.toArray⟩, .string ⟨f.2.toArray⟩] 41)) := by
  subst hz
  obtain ⟨i0, hi, hz0, hz1, hz2⟩ := info_parts fld_info
  refine wpList_append_any _ hgd s x 22 ho base 41 i0 (.agg #[.string ⟨#[]⟩, .string ⟨#[]⟩]) 2 32 Tryz.underlying22 hi hz0 hz1 hz2 rfl (by decide) v n (fvs xs) hs (hown.alloc _) (w.heap.size + 1) (some ⟨w.heap.size, 0, none⟩) 1 1 [.string ⟨f.1.toArray⟩, .string ⟨f.2.toArray⟩] hx (two_new w _ _ _) ?_ (by unfold maxLen; omega) (by omega) (by simp; omega) ?_
  · intro u hu
    simp only [List.mem_cons, List.not_mem_nil, or_false] at hu
    rcases hu with rfl | rfl <;> rfl
  · intro v' w' hown' hg _
    have e : fvs (xs ++ [f]) = fvs xs ++ [.string ⟨f.1.toArray⟩, .string ⟨f.2.toArray⟩] := by rw [fvs_append]; rfl
    have hb := below_append ((Below.refl base w).alloc hbase _) (hown.alloc _) hg (by simp; omega)
    rcases hown'.2 with ⟨_, h0⟩ | ⟨g, cap, cur, rfl, _, _, hc, _⟩
    · omega
    · exact h _ _ w' (by rw [e]; exact hown') hb hc
/-- The same, and what it says of the row's block. -/
theorem wpList_pushF2 {ops : Array Oper} {rest : List Oper} {o : Oper} {a : Act} {Q : Exit → Act → World → Prop} {w : World} (hgd : o.guard = none) (s x : Operand)
    (ho : o.op = .call { callee := .builtin .append, args := #[s, x], argTypes := #[22, 22] })
    (base : Nat) (v : Value) (n : Nat) (xs : List Fld) (hs : a.eval s = v) (hown : w.ownsRow base 41 2 v n (fvs xs)) (f : Fld)
    (z : Nat) (hx : a.eval x = .slice (some ⟨z, 0, none⟩) 1 1) (hz : z = w.heap.size) (hn : n + 1 ≤ 1000000) (hbase : base ≤ w.heap.size)
    (h : ∀ A' c' w', w'.ownsRow base 41 2 (.slice A' (n + 1) c') (n + 1) (fvs (xs ++ [f])) → (w.alloc (.cells #[.string ⟨f.1.toArray⟩, .string ⟨f.2.toArray⟩] 41)).grownBy w' v.ownBlock → ((Value.slice A' (n + 1) c').ownBlock = v.ownBlock ∨ (Value.slice A' (n + 1) c').ownBlock = some (w.heap.size + 1)) → Below base w w' → wpList Tryz.prog ops Q rest (a.put o.dst (.slice A' (n + 1) c')) w') :
    wpList Tryz.prog ops Q (o :: rest) a (w.alloc (.cells #[.string ⟨f.1.toArray⟩, .string ⟨f.2.toArray⟩] 41)) := by
  subst hz
  obtain ⟨i0, hi, hz0, hz1, hz2⟩ := info_parts fld_info
  refine wpList_append_any _ hgd s x 22 ho base 41 i0 (.agg #[.string ⟨#[]⟩, .string ⟨#[]⟩]) 2 32 Tryz.underlying22 hi hz0 hz1 hz2 rfl (by decide) v n (fvs xs) hs (hown.alloc _) (w.heap.size + 1) (some ⟨w.heap.size, 0, none⟩) 1 1 [.string ⟨f.1.toArray⟩, .string ⟨f.2.toArray⟩] hx (two_new w _ _ _) ?_ (by unfold maxLen; omega) (by omega) (by simp; omega) ?_
  · intro u hu
    simp only [List.mem_cons, List.not_mem_nil, or_false] at hu
    rcases hu with rfl | rfl <;> rfl
  · intro v' w' hown' hg hv
    have e : fvs (xs ++ [f]) = fvs xs ++ [.string ⟨f.1.toArray⟩, .string ⟨f.2.toArray⟩] := by rw [fvs_append]; rfl
    have hb := below_append ((Below.refl base w).alloc hbase _) (hown.alloc _) hg (by simp; omega)
    have hsz : (w.alloc (.cells #[.string ⟨f.1.toArray⟩, .string ⟨f.2.toArray⟩] 41)).heap.size = w.heap.size + 1 := by simp
    rw [hsz] at hv
    rcases hown'.2 with ⟨_, h0⟩ | ⟨g, cap, cur, rfl, _, _, hc, _⟩
    · omega
    · exact h _ _ w' (by rw [e]; exact hown') hg hv hb
end Go.Proofs.YtbgnggkgmeagkaaGreatDoor
namespace Go.Proofs.YtbgnggkgmeagkaaGreatDoor
open Go.RowKit

theorem val_ones (l : List Bool) : val l = 2 ^ l.length - 1 ↔ l.all (fun b => b) = true := by
  induction l with
  | nil => simp [val]
  | cons b r ih =>
    have hlt := val_lt r
    have hp := Nat.two_pow_pos r.length
    rw [val_cons, List.length_cons, Nat.pow_succ, List.all_cons]
    cases b
    · simp
      omega
    · simp only [Bool.toNat_true, Nat.one_mul, Bool.true_and]
      rw [← ih]
      omega
def decS (l : List UInt8) : List UInt8 := (decode l).getD []
def decE (l : List UInt8) : Nat := if (decode l).isSome then 0 else 2
theorem dec_at_end {l o : List UInt8} (h : decode l = (some []).map (o ++ ·)) : decS l = o ∧ decE l = 0 := by
  simp [decS, decE, h]
theorem dec_at_fault {l o : List UInt8} (h : decode l = (none : Option (List UInt8)).map (o ++ ·)) : decS l = [] ∧ decE l = 2 := by
  simp [decS, decE, h]
theorem map_app (r : Option (List UInt8)) (o : List UInt8) (c : UInt8) : (r.map (c :: ·)).map (o ++ ·) = r.map ((o ++ [c]) ++ ·) := by
  cases r <;> simp
theorem wrap64_pow8 (m : Nat) (h : m < 8) : wrap64 ((2 : Int) ^ m) = ((2 ^ m : Nat) : Int) := by
  have e : ((2 : Int) ^ m) = ((2 ^ m : Nat) : Int) := by simp
  rw [e]
  have h2 : 2 ^ m ≤ 2 ^ 8 := Nat.pow_le_pow_right (by omega) (by omega)
  generalize 2 ^ m = p at *
  unfold wrap64
  omega

/-- What the loop of Decode holds at a round's head. -/
structure DecAt (l : List UInt8) (W : World) (g c : Nat) (A : Option Addr) (n : Nat) (o : List UInt8) (v : Value) (wr : World) : Prop where
  n8 : n ≤ 8 * l.length
  olen : o.length ≤ n
  blk : Blk wr g 298 #[.slice A l.length c, .int .i64 (n : Int)]
  own : wr.ownsRow W.heap.size 5 1 v o.length (bs o)
  but : BelowBut W.heap.size g W wr
  dec : decode l = (Go.Proofs.YtbgnggkgmeagkaaGreatDoor.dec ((unpack l).drop n)).map (o ++ ·)

theorem get_val (many g n c : Nat) (A : Option Addr) (l : List UInt8) (z : Int) (w : World) (hm : many ≤ 9) (hl : l.length ≤ 140737488355328) (hn : n + many ≤ 8 * l.length)
    (hB : Blk w g 298 #[.slice A l.length c, .int .i64 (n : Int)]) (B : Nat) (hr : Reads w B 1 A l.length (bs l)) (hgB : ∀ ad, A = some ad → ad.block ≠ g) (hz : ((val (((unpack l).drop n).take many) : Nat) : Int) = z) :
    Calls Tryz.prog 311 #[.pointer (some ⟨g, 0, none⟩), .int .i64 many] w fun e w' => e = .returned (.int .i64 z) ∧ Blk w' g 298 #[.slice A l.length c, .int .i64 ((n + many : Nat) : Int)] ∧ BelowBut w.heap.size g w w' := by
  rw [← hz]
  exact get_any many g n c A l w hm hl hn hB B hr hgB
theorem own_but {w w' : World} {B g : Nat} {e : TypeId} {size n : Nat} {v : Value} {xs : List Value} (h : w.ownsRow B e size v n xs) (hg : g < B) (hb : BelowBut w.heap.size g w w') : w'.ownsRow B e size v n xs := by
  obtain ⟨h1, h2⟩ := h
  refine ⟨h1, ?_⟩
  rcases h2 with h2 | ⟨q, cap, cur, hv, hq, hh, r⟩
  · exact .inl h2
  · refine .inr ⟨q, cap, cur, hv, hq, ?_, r⟩
    rw [hb.block q (Blk.lt (t := e) (cs := cur) hh) (by omega)]
    exact hh
theorem BelowBut.cut {B B' g : Nat} {a b : World} (h : BelowBut B g a b) (hB : B' ≤ B) : BelowBut B' g a b := ⟨h.os, h.tape, h.output, h.size, fun k hk => h.block k (by omega)⟩
theorem often_arr (z : Nat) (h : z < 32) : often.getD z 0 = (ByteArray.mk often.toArray)[z]'(h) := by
  have hall : ∀ z : Fin 32, often.getD z.val 0 = (ByteArray.mk often.toArray)[z.val]'(z.isLt) := by decide
  exact hall ⟨z, h⟩

/-- The reading of the bytes that came in, in a later world. -/
theorem reads_but {w wr : World} {A : Option Addr} {l : List UInt8} {B g : Nat} {W : World} (hr : Reads w w.heap.size 1 A l.length (bs l)) (hW : Below w.heap.size w W) (hg : w.heap.size ≤ g) (hB : w.heap.size ≤ B) (hb : BelowBut B g W wr) : Reads wr w.heap.size 1 A l.length (bs l) :=
  hr.below (hW.trans (hb.below hB hg))

set_option maxRecDepth 100000 in
set_option maxHeartbeats 4000000 in
theorem decode_any (l : List UInt8) (hl : l.length ≤ 1099511627776) (A : Option Addr) (n c : Nat) (hn : n = l.length) (w : World) (hr : Reads w w.heap.size 1 A l.length (bs l)) :
    Calls Tryz.prog 271 #[.slice A n c] w fun e w' => e = .returned (.tuple #[.string ⟨(decS l).toArray⟩, errV (decE l)]) ∧ Below w.heap.size w w' := by
  subst hn
  have hul := unpack_length l
  have hlm : l.length ≤ 140737488355328 := by omega
  go_enter Tryz.func271, Tryz.ntmps271
  go_wp2_with fail
  have hbW := (Below.refl w.heap.size w).alloc (Nat.le_refl _) (.cells #[.slice A l.length c, .int .i64 0] 298)
  have hblk := Blk.new w 298 #[.slice A l.length c, .int .i64 0]
  have hWs : (w.alloc (.cells #[.slice A l.length c, .int .i64 0] 298)).heap.size = w.heap.size + 1 := by simp
  generalize w.alloc (.cells #[.slice A l.length c, .int .i64 0] 298) = W at *
  have HG : Hid (0 < l.length → ∀ ad, A = some ad → ad.block ≠ w.heap.size) := by
    intro h0 ad had
    obtain ⟨b, off, hA, hb, _⟩ := hr.form h0
    rw [hA] at had
    injection had with had
    subst had
    show b ≠ w.heap.size
    omega
  have hgW : w.heap.size < W.heap.size := by omega
  have HBW := Lib.hid hbW
  have HR := Lib.hid hr
  clear hWs hbW hr
  go_loopw [5, 6] (fun out left wr => ∃ (m n : Nat) (o : List UInt8), n + m = 8 * l.length ∧ left = .int .i64 (m : Int) ∧ DecAt l W w.heap.size c A n o out wr) (fun _ left _ => (intOf left).toNat)
  case atStart => exact ⟨8 * l.length, 0, [], by omega, by go_num, by omega, by simp, hblk, World.ownsRow_nil _ _ _ _, BelowBut.refl _ _ _, by simp [decode]⟩
  case round =>
    obtain ⟨m, n, o, hnm, rfl, hD⟩ := hrel
    clear hblk
    have hown0 := hD.own
    obtain ⟨A2, c2, rfl, hc2, hr2⟩ := isBytes_of_own hown0
    have holn := hD.olen
    have hol : o.length ≤ 8 * l.length := by omega
    have hbb := hD.but
    have hblk := hD.blk
    have hdec := hD.dec
    have hdl : ((unpack l).drop n).length = m := by rw [List.length_drop]; omega
    have hrd := reads_but HR.out HBW.out (Nat.le_refl _) (by omega) hbb
    have hB2 : W.heap.size ≤ wr.heap.size := hbb.size
    have HFR := Lib.hid (HBW.out.trans (hbb.below (by omega) (Nat.le_refl _)))
    have HDEC := Lib.hid hdec
    have HOWN := Lib.hid hown0
    have HBLK := Lib.hid hblk
    have HRD := Lib.hid hrd
    have HBB := Lib.hid hbb
    have hc0 := hblk.cell 0
    have hc1 := hblk.cell 1
    have hf1 := hblk.frozen 1
    simp only [List.getElem?_toArray, List.getElem?_cons_zero, List.getElem?_cons_succ] at hc0 hc1
    clear hD hown0 hbb hblk hdec hrd hul
    generalize hDD : (unpack l).drop n = D at *
    have HDD := Lib.hid hDD
    clear hDD
    by_cases hm0 : m = 0
    · -- the bytes are at their end
      subst hm0
      have hD0 : D = [] := List.eq_nil_of_length_eq_zero hdl
      have hfin := HDEC.out
      rw [hD0, dec_ones (by simp) (by simp)] at hfin
      have HF := Lib.hid (dec_at_end hfin)
      have k1 := run_str hr2 c2
      clear hfin hr2 hc0 hc1 hf1
      go_wp2
      go_ret2
      exact ⟨by rw [HF.out.1, HF.out.2]; rfl, HFR.out⟩
    have hl0 : 0 < l.length := by omega
    have hgA := Lib.hid (HG.out hl0)
    by_cases h8 : m < 8
    · have hv : ((val ((unpack l).drop n |>.take m) : Nat) : Int) = (val D : Int) := by
        rw [HDD.out, List.take_of_length_le (by omega)]
      have HV := Lib.hid hv
      have hs := wrap64_pow8 m h8
      have hp : 2 ^ m ≤ 128 := by
        have : 2 ^ m ≤ 2 ^ 7 := Nat.pow_le_pow_right (by omega) (by omega)
        omega
      have hp0 : 1 ≤ 2 ^ m := Nat.one_le_two_pow
      have hvl := val_lt D
      rw [hdl] at hvl
      have HON := Lib.hid (val_ones D)
      rw [hdl] at HON
      clear hv hc0 hc1 hf1
      by_cases hon : D.all (fun b => b) = true
      · -- what fills up
        have hve := HON.out.2 hon
        have hfin := HDEC.out
        rw [dec_ones (by omega) hon] at hfin
        have HF := Lib.hid (dec_at_end hfin)
        have hve' : (val D : Int) = ((2 ^ m : Nat) : Int) - 1 := by omega
        rw [hve'] at HV
        clear hfin hon HON hve hve' hvl
        generalize 2 ^ m = p at *
        go_wp2_with fail
        refine (get_val m w.heap.size n c A l _ wr (by omega) hlm (by omega) HBLK.out _ HRD.out hgA.out HV.out).mono ?_
        rintro e w' ⟨rfl, hb', hbt⟩
        have hown' := own_but HOWN.out hgW hbt
        have hr3 := Reads.of_own hown'
        have k1 := run_str hr3 c2
        have HFR2 := Lib.hid (HFR.out.trans (hbt.below (by omega) (Nat.le_refl _)))
        clear hb' hbt hown' hr3 hr2
        go_wp2
        go_ret2
        exact ⟨by rw [HF.out.1, HF.out.2]; rfl, HFR2.out⟩
      · -- no ones alone
        have hvne : val D ≠ 2 ^ m - 1 := fun h => hon (HON.out.1 h)
        have hno : ¬ (D.length < 8 ∧ D.all (fun b => b) = true) := fun h => hon h.2
        have HNO := Lib.hid hno
        clear HON hon hno hvl
        generalize hvd : val D = vd at *
        clear hvd
        generalize 2 ^ m = p at *
        have hne : ((vd : Int) == (p : Int) - 1) = false := by simp; omega
        clear hvne
        go_wp2_with fail
        refine (get_val m w.heap.size n c A l _ wr (by omega) hlm (by omega) HBLK.out _ HRD.out hgA.out HV.out).mono ?_
        rintro e w1 ⟨rfl, hb1, hbt1⟩
        have hown1 := own_but HOWN.out hgW hbt1
        have hk0 := hb1.cell 0
        have hk1 := hb1.cell 1
        have hkf := hb1.frozen 1
        simp only [List.getElem?_toArray, List.getElem?_cons_zero, List.getElem?_cons_succ] at hk0 hk1
        have hs1 := hbt1.size
        have HB1 := Lib.hid hb1
        have HO1 := Lib.hid hown1
        have HT1 := Lib.hid (HBB.out.trans (hbt1.cut hB2))
        clear hb1 hown1 hbt1 hr2
        by_cases h6 : m < 6
        · have hfin := HDEC.out
          rw [dec_short HNO.out (by omega)] at hfin
          have HF := Lib.hid (dec_at_fault hfin)
          clear hfin
          go_wp2
          go_ret2
          exact ⟨by rw [HF.out.1, HF.out.2]; rfl, (HBW.out.trans (HT1.out.below (by omega) (Nat.le_refl _))).setCell (Nat.le_refl _) _⟩
        have hblk2 := HB1.out.set_ 1 (.int .i64 (n : Int))
        simp at hblk2
        have hown2 := own_far HO1.out (p := ⟨w.heap.size, 1, none⟩) hgW (.int .i64 (n : Int))
        have hbb2 := HT1.out.setCell (p := ⟨w.heap.size, 1, none⟩) (.inl rfl) (.int .i64 (n : Int))
        have HB2 := Lib.hid hblk2
        have HO2 := Lib.hid hown2
        have HT2 := Lib.hid hbb2
        have hm6 : 6 ≤ m := by omega
        clear hblk2 hown2 hbb2 HB1 HO1 h6
        go_wp2_with fail
        rw [show (8 * (l.length : Int) - (m : Int)) = (n : Int) by omega]
        generalize w1.setCell ⟨w.heap.size, 1, none⟩ (.int .i64 (n : Int)) = w2 at *
        clear hk0 hk1 hkf HV hne hs hs1 HT1
        have hB22 : W.heap.size ≤ w2.heap.size := HT2.out.size
        obtain ⟨b0, q, hbq⟩ : ∃ b0 q, D = b0 :: q := by
          cases D with
          | nil => simp at hdl; omega
          | cons b0 q => exact ⟨b0, q, rfl⟩
        subst hbq
        have hdq : q = (unpack l).drop (n + 1) := by
          have h1 := HDD.out
          rw [← List.drop_drop, h1]
          rfl
        have hql : q.length + 1 = m := by simpa using hdl
        have HV1 := Lib.hid (show ((val (((unpack l).drop n).take 1) : Nat) : Int) = (b0.toNat : Int) by rw [HDD.out]; simp [val])
        have HRD2 := Lib.hid (reads_but HR.out HBW.out (Nat.le_refl _) (by omega) HT2.out)
        have HDQ := Lib.hid hdq
        clear hdq hdl
        cases b0 with
        | false =>
          have hz32 : val (q.take 5) < 32 := by
            have h1 := val_lt (q.take 5)
            have h2 : (q.take 5).length = 5 := by rw [List.length_take]; omega
            rw [h2] at h1
            exact h1
          have HV5 := Lib.hid (show ((val (((unpack l).drop (n + 1)).take 5) : Nat) : Int) = (val (q.take 5) : Int) by rw [← HDQ.out])
          have hfin := HDEC.out
          rw [dec_often HNO.out (by rw [List.length_cons]; omega) rfl, List.drop_succ_cons, List.drop_succ_cons, List.drop_zero, map_app] at hfin
          have hd6 : q.drop 5 = (unpack l).drop (n + 6) := by rw [HDQ.out, List.drop_drop]
          rw [hd6] at hfin
          have HF := Lib.hid hfin
          clear hfin hd6 HDEC HNO
          generalize val (q.take 5) = z at *
          refine (get_val 1 w.heap.size n c A l _ w2 (by omega) hlm (by omega) HB2.out _ HRD2.out hgA.out HV1.out).mono ?_
          rintro e w3 ⟨rfl, hb3, hbt3⟩
          have hown3 := own_but HO2.out hgW hbt3
          have hbb3 := HT2.out.trans (hbt3.cut hB22)
          have hrd3 := reads_but HR.out HBW.out (Nat.le_refl _) (by omega) hbb3
          have hB33 : W.heap.size ≤ w3.heap.size := hbb3.size
          have H3 := Lib.hid hb3
          have H3o := Lib.hid hown3
          have H3b := Lib.hid hbb3
          have H3r := Lib.hid hrd3
          clear hb3 hown3 hbb3 hrd3 hbt3 HV1
          go_wp2_with fail
          refine (get_val 5 w.heap.size (n + 1) c A l _ w3 (by omega) hlm (by omega) H3.out _ H3r.out hgA.out HV5.out).mono ?_
          rintro e w4 ⟨rfl, hb4, hbt4⟩
          have hown4 := own_but H3o.out hgW hbt4
          have hbb4 := H3b.out.trans (hbt4.cut hB33)
          have hB44 : W.heap.size ≤ w4.heap.size := hbb4.size
          have H4 := Lib.hid hb4
          have H4b := Lib.hid hbb4
          have hob : o.length + 1 ≤ 140737488355328 := by omega
          clear hb4 hbb4 hbt4 H3 H3o H3b H3r HV5
          go_wp2_with (at_builtin; refine wpList_push rfl _ _ rfl W.heap.size _ _ _ rfl hown4 rfl rfl hob hB44 ?_; intro v5 w5 hown5 hb5; have hblk5 := H4.out.below hb5 hgW; have hj0 := hblk5.cell 0; have hj1 := hblk5.cell 1; simp only [List.getElem?_toArray, List.getElem?_cons_zero, List.getElem?_cons_succ] at hj0 hj1; have H5 := Lib.hid hblk5; have H5b := Lib.hid (H4b.out.trans (BelowBut.of hb5)); clear hblk5 hb5)
          go_roundw
          case rel =>
            refine ⟨m - 6, n + 6, o ++ [often.getD z 0], by omega, by go_num, ?_⟩
            refine ⟨by omega, by simp; omega, ?_, ?_, H5b.out, HF.out⟩
            · have := H5.out
              rwa [show n + 1 + 5 = n + 6 by omega] at this
            · rw [bs_append, List.length_append, often_arr z hz32]
              exact hown5
          case measure => simp [intOf]; omega
        | true =>
          have hfin := HDEC.out
          rw [dec_cut HNO.out (by rw [List.length_cons]; omega) (by simp) (by rw [List.length_cons]; omega)] at hfin
          have HF := Lib.hid (dec_at_fault hfin)
          clear hfin HDEC HNO
          refine (get_val 1 w.heap.size n c A l _ w2 (by omega) hlm (by omega) HB2.out _ HRD2.out hgA.out HV1.out).mono ?_
          rintro e w3 ⟨rfl, hb3, hbt3⟩
          have H3b := Lib.hid (HBW.out.trans ((HT2.out.trans (hbt3.cut hB22)).below (by omega) (Nat.le_refl _)))
          clear hb3 hbt3
          go_wp2
          go_ret2
          exact ⟨by rw [HF.out.1, HF.out.2]; rfl, H3b.out⟩
    · have HNO : Hid (¬ (D.length < 8 ∧ D.all (fun b => b) = true)) := fun h => by omega
      have hm6 : 6 ≤ m := by omega
      have hB22 := hB2
      have HB2 := HBLK
      have HO2 := HOWN
      have HT2 := HBB
      clear hc0 hc1 hf1 hr2
      go_wp2_with fail
      obtain ⟨b0, q, hbq⟩ : ∃ b0 q, D = b0 :: q := by
        cases D with
        | nil => simp at hdl; omega
        | cons b0 q => exact ⟨b0, q, rfl⟩
      subst hbq
      have hdq : q = (unpack l).drop (n + 1) := by
        have h1 := HDD.out
        rw [← List.drop_drop, h1]
        rfl
      have hql : q.length + 1 = m := by simpa using hdl
      have HV1 := Lib.hid (show ((val (((unpack l).drop n).take 1) : Nat) : Int) = (b0.toNat : Int) by rw [HDD.out]; simp [val])
      have HRD2 := Lib.hid (reads_but HR.out HBW.out (Nat.le_refl _) (by omega) HT2.out)
      have HDQ := Lib.hid hdq
      clear hdq hdl
      cases b0 with
      | false =>
        have hz32 : val (q.take 5) < 32 := by
          have h1 := val_lt (q.take 5)
          have h2 : (q.take 5).length = 5 := by rw [List.length_take]; omega
          rw [h2] at h1
          exact h1
        have HV5 := Lib.hid (show ((val (((unpack l).drop (n + 1)).take 5) : Nat) : Int) = (val (q.take 5) : Int) by rw [← HDQ.out])
        have hfin := HDEC.out
        rw [dec_often HNO.out (by rw [List.length_cons]; omega) rfl, List.drop_succ_cons, List.drop_succ_cons, List.drop_zero, map_app] at hfin
        have hd6 : q.drop 5 = (unpack l).drop (n + 6) := by rw [HDQ.out, List.drop_drop]
        rw [hd6] at hfin
        have HF := Lib.hid hfin
        clear hfin hd6 HDEC HNO
        generalize val (q.take 5) = z at *
        refine (get_val 1 w.heap.size n c A l _ wr (by omega) hlm (by omega) HB2.out _ HRD2.out hgA.out HV1.out).mono ?_
        rintro e w3 ⟨rfl, hb3, hbt3⟩
        have hown3 := own_but HO2.out hgW hbt3
        have hbb3 := HT2.out.trans (hbt3.cut hB22)
        have hrd3 := reads_but HR.out HBW.out (Nat.le_refl _) (by omega) hbb3
        have hB33 : W.heap.size ≤ w3.heap.size := hbb3.size
        have H3 := Lib.hid hb3
        have H3o := Lib.hid hown3
        have H3b := Lib.hid hbb3
        have H3r := Lib.hid hrd3
        clear hb3 hown3 hbb3 hrd3 hbt3 HV1
        go_wp2_with fail
        refine (get_val 5 w.heap.size (n + 1) c A l _ w3 (by omega) hlm (by omega) H3.out _ H3r.out hgA.out HV5.out).mono ?_
        rintro e w4 ⟨rfl, hb4, hbt4⟩
        have hown4 := own_but H3o.out hgW hbt4
        have hbb4 := H3b.out.trans (hbt4.cut hB33)
        have hB44 : W.heap.size ≤ w4.heap.size := hbb4.size
        have H4 := Lib.hid hb4
        have H4b := Lib.hid hbb4
        have hob : o.length + 1 ≤ 140737488355328 := by omega
        clear hb4 hbb4 hbt4 H3 H3o H3b H3r HV5
        go_wp2_with (at_builtin; refine wpList_push rfl _ _ rfl W.heap.size _ _ _ rfl hown4 rfl rfl hob hB44 ?_; intro v5 w5 hown5 hb5; have hblk5 := H4.out.below hb5 hgW; have hj0 := hblk5.cell 0; have hj1 := hblk5.cell 1; simp only [List.getElem?_toArray, List.getElem?_cons_zero, List.getElem?_cons_succ] at hj0 hj1; have H5 := Lib.hid hblk5; have H5b := Lib.hid (H4b.out.trans (BelowBut.of hb5)); clear hblk5 hb5)
        go_roundw
        case rel =>
          refine ⟨m - 6, n + 6, o ++ [often.getD z 0], by omega, by go_num, ?_⟩
          refine ⟨by omega, by simp; omega, ?_, ?_, H5b.out, HF.out⟩
          · have := H5.out
            rwa [show n + 1 + 5 = n + 6 by omega] at this
          · rw [bs_append, List.length_append, often_arr z hz32]
            exact hown5
        case measure => simp [intOf]; omega
      | true =>
        by_cases h9 : m < 9
        · have hfin := HDEC.out
          rw [dec_cut HNO.out (by rw [List.length_cons]; omega) (by simp) (by rw [List.length_cons]; omega)] at hfin
          have HF := Lib.hid (dec_at_fault hfin)
          clear hfin HDEC HNO
          refine (get_val 1 w.heap.size n c A l _ wr (by omega) hlm (by omega) HB2.out _ HRD2.out hgA.out HV1.out).mono ?_
          rintro e w3 ⟨rfl, hb3, hbt3⟩
          have H3b := Lib.hid (HBW.out.trans ((HT2.out.trans (hbt3.cut hB22)).below (by omega) (Nat.le_refl _)))
          clear hb3 hbt3
          go_wp2
          go_ret2
          exact ⟨by rw [HF.out.1, HF.out.2]; rfl, H3b.out⟩
        have hz256 : val (q.take 8) < 256 := by
          have h1 := val_lt (q.take 8)
          have h2 : (q.take 8).length = 8 := by rw [List.length_take]; omega
          rw [h2] at h1
          exact h1
        have HV8 := Lib.hid (show ((val (((unpack l).drop (n + 1)).take 8) : Nat) : Int) = (val (q.take 8) : Int) by rw [← HDQ.out])
        have hd9 : q.drop 8 = (unpack l).drop (n + 9) := by rw [HDQ.out, List.drop_drop]
        have HD9 := Lib.hid hd9
        have hch : (UInt8.ofNat (val (q.take 8))).toNat = val (q.take 8) := by
          simp only [UInt8.toNat_ofNat']
          omega
        have HBAD : Hid (0 ≤ oidx (UInt8.ofNat (val (q.take 8))) → dec (true :: q) = none) := fun hi => dec_bad (l := true :: q) (by rw [List.length_cons]; omega) (by simp) hi
        have HRARE : Hid (¬ 0 ≤ oidx (UInt8.ofNat (val (q.take 8))) → dec (true :: q) = (dec (q.drop 8)).map (UInt8.ofNat (val (q.take 8)) :: ·)) := fun hi => dec_rare (l := true :: q) (by rw [List.length_cons]; omega) (by simp) hi
        generalize hcc : UInt8.ofNat (val (q.take 8)) = cc at *
        generalize val (q.take 8) = z at *
        clear hcc hd9
        have HCH := Lib.hid hch
        clear hch HNO
        refine (get_val 1 w.heap.size n c A l _ wr (by omega) hlm (by omega) HB2.out _ HRD2.out hgA.out HV1.out).mono ?_
        rintro e w3 ⟨rfl, hb3, hbt3⟩
        have hown3 := own_but HO2.out hgW hbt3
        have hbb3 := HT2.out.trans (hbt3.cut hB22)
        have hrd3 := reads_but HR.out HBW.out (Nat.le_refl _) (by omega) hbb3
        have hB33 : W.heap.size ≤ w3.heap.size := hbb3.size
        have H3 := Lib.hid hb3
        have H3o := Lib.hid hown3
        have H3b := Lib.hid hbb3
        have H3r := Lib.hid hrd3
        clear hb3 hown3 hbb3 hrd3 hbt3 HV1
        go_wp2_with fail
        refine (get_val 8 w.heap.size (n + 1) c A l _ w3 (by omega) hlm (by omega) H3.out _ H3r.out hgA.out HV8.out).mono ?_
        rintro e w4 ⟨rfl, hb4, hbt4⟩
        have hown4 := own_but H3o.out hgW hbt4
        have hbb4 := H3b.out.trans (hbt4.cut hB33)
        have hB44 : W.heap.size ≤ w4.heap.size := hbb4.size
        have H4 := Lib.hid hb4
        have H4b := Lib.hid hbb4
        have hob : o.length + 1 ≤ 140737488355328 := by omega
        clear hb4 hbb4 hbt4 H3 H3o H3b H3r HV8
        by_cases hi : 0 ≤ oidx cc
        · obtain ⟨y, hy⟩ := Int.eq_ofNat_of_zero_le hi
          have hfin := HDEC.out
          rw [HBAD.out hi] at hfin
          have HF := Lib.hid (dec_at_fault hfin)
          have HY := Lib.hid hy
          have hcon := idx_k cc y HY.out w4
          rw [HCH.out] at hcon
          have HC := Lib.hid hcon
          clear hfin hi hy HBAD HRARE HDEC hcon
          go_wp2_with fail
          refine (HC.out).mono ?_
          rintro e w' ⟨rfl, rfl⟩
          have HE := Lib.hid (HBW.out.trans (H4b.out.below (by omega) (Nat.le_refl _)))
          clear H4b H4 HC hown4
          go_wp2
          go_ret2
          exact ⟨by rw [HF.out.1, HF.out.2]; rfl, HE.out⟩
        · have hm1 : oidx cc = -1 := by have := (oidx_bounds cc).1; omega
          have hfin := HDEC.out
          rw [HRARE.out (by omega), HD9.out, map_app] at hfin
          have HF := Lib.hid hfin
          have HY := Lib.hid hm1
          have hcon := idx_k cc (-1) HY.out w4
          rw [HCH.out] at hcon
          have HC := Lib.hid hcon
          clear hfin hi hm1 HBAD HRARE HDEC hcon
          go_wp2_with fail
          refine (HC.out).mono ?_
          rintro e w' ⟨rfl, rfl⟩
          clear HC
          go_wp2_with (at_builtin; refine wpList_push rfl _ _ rfl W.heap.size _ _ _ rfl hown4 rfl rfl hob hB44 ?_; intro v5 w5 hown5 hb5; have hblk5 := H4.out.below hb5 hgW; have hj0 := hblk5.cell 0; have hj1 := hblk5.cell 1; simp only [List.getElem?_toArray, List.getElem?_cons_zero, List.getElem?_cons_succ] at hj0 hj1; have H5 := Lib.hid hblk5; have H5b := Lib.hid (H4b.out.trans (BelowBut.of hb5)); clear hblk5 hb5)
          go_roundw
          case rel =>
            refine ⟨m - 9, n + 9, o ++ [cc], by omega, by go_num, ?_⟩
            refine ⟨by omega, by simp; omega, ?_, ?_, H5b.out, HF.out⟩
            · have := H5.out
              rwa [show n + 1 + 8 = n + 9 by omega] at this
            · rw [bs_append, List.length_append]
              have e1 : bs [cc] = [.int .u8 (z : Int)] := by simp [bs, HCH.out]
              rw [e1]
              exact hown5
          case measure => simp [intOf]; omega
end Go.Proofs.YtbgnggkgmeagkaaGreatDoor
