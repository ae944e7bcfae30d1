/-
  The walk of the law FrameChecks: it returns true, and nothing that was in memory turns. Condition: the bounds on the bytes and settings; errors.errorType reads as laid.
-/
import Derived.Test.YtkbbkamnmdeagaaDoorFcE
import Derived.Test.YtkbbkamnmdeagaaDoorRefChk4
import Derived.Test.YtkbbkamnmdeagaaDoorRefSplit
import Derived.Test.YtkbbkamnmdeagaaDoorSets
import Derived.Test.YtkbbkamnmdeagaaDoorReadSets
import Derived.Test.YtkbbkamnmdeagaaDoorFrmRR
import Derived.Test.YtkbbkamnmdeagaaDoorFbA
import Derived.Deep.CutBlock
namespace Go.Proofs.YtkbbkamnmdeagaaDoor
open Go.RowKit

theorem cell_behindC {w w1 : World} (hb : Below w.heap.size w w1) {p : Addr} {v : Value} (h : w.cell? p = some v) : w1.cell? p = some v := (hb.cell (World.block_lt_of_cell? w p h)).trans h
theorem belC {w w1 w2 : World} (h : Below w.heap.size w w1) (k : Below w1.heap.size w1 w2) : Below w.heap.size w w2 := h.trans (k.mono h.size)
theorem bigL_le (n s : Int) : (bigL n s).length ≤ s.toNat := by
  unfold bigL
  split
  · rw [beBytes_length]
    exact Nat.le_refl _
  · exact Nat.zero_le _
theorem own_belowB {w w' : World} {base : Nat} {e : TypeId} {size n : Nat} {v : Value} {xs : List Value} (h : w.ownsRow base e size v n xs) (hb : Below w.heap.size w w') : w'.ownsRow base e size v n xs :=
  own_kept_nc h (grown_of_below hb) (fun r e => by cases e)
theorem wpList_join2 {ops : Array Oper} {rest : List Oper} {o : Oper} {a : Act} {Q : Exit → Act → World → Prop} {w : World} (hgd : o.guard = none) (s x : Operand)
    (ho : o.op = .call { callee := .builtin .append, args := #[s, x], argTypes := #[22, 22] })
    (base : Nat) (v : Value) (n : Nat) (xs : List Value) (hs : a.eval s = v) (hown : w.ownsRow base 5 1 v n xs)
    (B : Nat) (A : Option Addr) (m c : Nat) (news : List Value) (hx : a.eval x = .slice A m c) (hr : Reads w B 1 A m news) (h1 : ∀ u ∈ news, u.oneCell' = true) (hn : n + m ≤ 140737488355328) (hbase : base ≤ w.heap.size)
    (h : ∀ v' w', w'.ownsRow base 5 1 v' (n + m) (xs ++ news) → w.grownBy w' v.ownBlock → Below base w w' → wpList Tryd.prog ops Q rest (a.put o.dst v') w') : wpList Tryd.prog ops Q (o :: rest) a w := by
  obtain ⟨i0, hi, hz0, hz1, hz2⟩ := info_parts u8_info
  refine wpList_append_any _ hgd s x 22 ho base 5 i0 (.int .u8 0) 1 1 Tryd.underlying22 hi hz0 hz1 hz2 rfl (by decide) v n xs hs hown B A m c news hx hr h1 (by simp only [maxLen]; omega) (by omega) hbase ?_
  intro v' w' hown' hg _
  exact h v' w' hown' hg (below_append (Below.refl _ _) hown hg hbase)
theorem own_far {w w' : World} {b2 size n : Nat} {t : TypeId} {v v2 : Value} {xs : List Value} (h : w.ownsRow b2 t size v2 n xs) (hg : w.grownBy w' v.ownBlock) (hv : ∀ g, v.ownBlock = some g → g < b2) : w'.ownsRow b2 t size v2 n xs := by
  refine h.kept hg ?_
  rcases h.2 with ⟨rfl, _⟩ | ⟨g, cap, cur, rfl, hb, _⟩
  · exact .inl rfl
  · refine .inr fun e => ?_
    have := hv g e.symm
    omega
theorem own_slice {w : World} {B size n : Nat} {e : TypeId} {v : Value} {xs : List Value} (h : w.ownsRow B e size v n xs) : ∃ A c, v = .slice A n c := by
  obtain ⟨A, c, rfl, _⟩ := own_slice0 h
  exact ⟨A, c, rfl⟩
theorem pair_tmp (W : World) (a b : Nat) : Reads (W.alloc (.cells #[.int .i64 ((a : Nat) : Int), .int .i64 ((b : Nat) : Int)] 69)) (W.heap.size + 1) 2 (some ⟨W.heap.size, 0, none⟩) 1 [.int .i64 ((a : Nat) : Int), .int .i64 ((b : Nat) : Int)] :=
  ⟨rfl, fun _ => ⟨_, rfl, Nat.lt_succ_self _, cells2_new W _ _ _⟩⟩
theorem pair_one (a b : Nat) : ∀ u ∈ [Value.int .i64 ((a : Nat) : Int), .int .i64 ((b : Nat) : Int)], u.oneCell' = true := by
  intro u hu
  simp only [List.mem_cons, List.not_mem_nil, or_false] at hu
  rcases hu with rfl | rfl <;> rfl
theorem wrap6 {k : Nat} (h : k ≤ 200000000000) : wrap64 (((6 * k : Nat) : Int) + 6) = ((6 * (k + 1) : Nat) : Int) := by
  unfold wrap64
  omega
theorem eq_pair (a b c d : Int) (w : World) : (Op.equalIn 10000 69 (.agg #[.int .i64 a, .int .i64 b]) (.agg #[.int .i64 c, .int .i64 d])).run Tryd.prog w = .ok (a == c && b == d) w := by
  have u3 := Tryd.underlying3
  have a3 := Tryd.isAgg3
  have z3 := Tryd.sizeOf3
  rw [show (10000 : Nat) = 9999 + 1 from rfl, Op.equalIn]
  simp only [Sem.run_bind, run_underlying Tryd.underlying69, Result.andThen_ok]
  simp only [Std.Legacy.Range.forIn_eq_forIn_range', Std.Legacy.Range.size, Nat.sub_zero, Nat.add_sub_cancel, Nat.div_one, List.range'_succ, List.range'_zero, List.forIn_cons, List.forIn_nil]
  go_simp
  by_cases h1 : a = c <;> by_cases h2 : b = d <;> simp [h1, h2]
theorem rsL_len (b : List UInt8) : (rsL b).length ≤ b.length := by
  unfold rsL
  split
  · rw [pc6s_length]
    omega
  · exact Nat.zero_le _
theorem rbig_own (n s : Int) (w : World) :
    Calls Tryd.prog 13 #[.int .i64 n, .int .i64 s] w fun e w' => ∃ A c, e = .returned (.tuple #[.slice A (bigL n s).length c, .int .i64 (bigE n s : Nat)]) ∧ Gave w w' (bigL n s) A c ∧ w'.ownsRow w.heap.size 5 1 (.slice A (bigL n s).length c) (bigL n s).length (bs (bigL n s)) := by
  by_cases h : bigOk n s
  · have e1 : bigE n s = 0 := by simp [bigE, h]
    have e2 : bigL n s = beBytes s.toNat n.toNat := by simp [bigL, h]
    rw [e1, e2]
    refine (rbig_ok n s h.1 h.2.1 h.2.2.1 h.2.2.2 w).mono ?_
    rintro e w' ⟨v, he, hown, hb⟩
    have hown2 : w'.ownsRow w.heap.size 5 1 v (beBytes s.toNat n.toNat).length (bs (beBytes s.toNat n.toNat)) := by rw [beBytes_length]; exact hown
    obtain ⟨A, c, rfl, hg⟩ := gave_of_own hown2 hb
    exact ⟨A, c, he, hg, hown2⟩
  · have e1 : bigE n s = 1 := by simp [bigE, h]
    have e2 : bigL n s = [] := by simp [bigL, h]
    rw [e1, e2]
    refine (rbig_bad n s h w).mono ?_
    rintro e w' ⟨he, rfl⟩
    exact ⟨none, 0, he, gave_nil w, World.ownsRow_nil _ _ _ _⟩
/-- The frame i of a head that is split, as a frame. -/
def spG (block : List UInt8) (fin : Bool) (st : Int) (m i : Nat) : Frm := ⟨if i = 0 then 1 else 2, (if i = 0 then (if fin then 1 else 0) else 0) + if i + 1 = m then 4 else 0, st, pcB block i⟩

set_option maxRecDepth 100000 in
set_option maxHeartbeats 4000000 in
theorem frameChecks_walk (f : Frm) (A : Option Addr) (c : Nat) (st : Int) (block : List UInt8) (D : Option Addr) (d : Nat) (fin : Bool) (l : List Pr) (B : Option Addr) (bc : Nat) (w : World) (hE : ErrType w)
    (hcf : f.body.length ≤ c) (hmf : f.body.length ≤ 1000000000000) (hrf : Reads w w.heap.size 1 A f.body.length (bs f.body)) (hcb : block.length ≤ d) (hmb : block.length ≤ 140737488355328) (hrb : Reads w w.heap.size 1 D block.length (bs block))
    (hcl : l.length ≤ bc) (hml : l.length ≤ 10000000000000) (hrl : Reads w w.heap.size 2 B l.length (pvs l)) :
    Calls Tryd.prog 9 #[frV f A c, .int .i64 st, .slice D block.length d, .bool fin, .slice B l.length bc] w fun e w' => e = .returned (.bool true) ∧ Below w.heap.size w w' := by
  obtain ⟨W1, hW1⟩ : ∃ W1, w.alloc (.cells #[.int .i64 f.K, .int .i64 f.F, .int .i64 f.S, .slice A f.body.length c] 50) = W1 := ⟨_, rfl⟩
  have hb1 : Below w.heap.size w W1 := by rw [← hW1]; exact (Below.refl _ _).alloc (Nat.le_refl _) _
  have hk1 : Blk W1 w.heap.size 50 #[.int .i64 f.K, .int .i64 f.F, .int .i64 f.S, .slice A f.body.length c] := by rw [← hW1]; exact Blk.new w _ _
  have HB1 := Lib.hid hb1
  have HK1 := Lib.hid hk1
  have HRF1 := Lib.hid ((hrf.below hb1).more hb1.size)
  have HRB := Lib.hid hrb
  have HRL := Lib.hid hrl
  have HE := Lib.hid hE
  have HMF := Lib.hid hmf
  have HMB := Lib.hid hmb
  have HML := Lib.hid hml
  have HCF := Lib.hid hcf
  have HCB := Lib.hid hcb
  have HW1 := Lib.hid hW1
  clear hb1 hk1 hrf hrb hrl hE hW1 hmb hcb hmf hcf hcl
  go_enter Tryd.func9, Tryd.ntmps9
  unfold frV
  go_upto_region 1 with fail
  rw [HW1.out]
  have hF : ∀ z : WIn (fun w' => Below W1.heap.size W1 w'), Reads z.w z.w.heap.size 1 A f.body.length (bs f.body) := fun z => (HRF1.out.below z.h).more z.h.size
  have q : ∀ j v, W1.cell? ⟨w.heap.size, j, none⟩ = some v → ∀ z : WIn (fun w' => Below W1.heap.size W1 w'), z.w.cell? ⟨w.heap.size, j, none⟩ = some v := fun j v h z => cell_behindC z.h h
  have x0 := q 0 _ (HK1.out.cell 0)
  have x1 := q 1 _ (HK1.out.cell 1)
  have x2 := q 2 _ (HK1.out.cell 2)
  have x3 := q 3 _ (HK1.out.cell 3)
  obtain ⟨CK, hCK⟩ : ∃ CK, chkF f = CK := ⟨_, rfl⟩
  have HFC := Lib.hid (show ∀ z : WIn (fun w' => Below W1.heap.size W1 w'), Calls Tryd.prog 37 #[.agg #[.int .i64 f.K, .int .i64 f.F, .int .i64 f.S, .slice A f.body.length c]] z.w fun e w' => e = .returned (.int .i64 ((CK : Nat) : Int)) ∧ Below z.w.heap.size z.w w' from fun z => by
    have := fcheck_any f A c HCF.out (by have := HMF.out; omega) z.w (hF z)
    rwa [hCK] at this)
  have HRC := Lib.hid (show ∀ z : WIn (fun w' => Below W1.heap.size W1 w'), Calls Tryd.prog 38 #[.agg #[.int .i64 f.K, .int .i64 f.F, .int .i64 f.S, .slice A f.body.length c]] z.w fun e w' => e = .returned (.int .i64 ((CK : Nat) : Int)) ∧ Below z.w.heap.size z.w w' from fun z => by
    have := rcheck_any f A c HCF.out (by have := HMF.out; omega) z.w (hF z)
    rwa [hCK] at this)
  clear q hF hCK
  refine quiet_in (fun w' => Below W1.heap.size W1 w') (by kernel_rfl) (by kernel_rfl) ?_ fun hne => ?_
  · exact (Below.refl _ _).drew
  repeat (first | go_big_quiet_skip | (go_big_quiet_want; go_big_quiet_op; go_big_quiet_on))
  go_big_quiet_want
  go_big_quiet_op
  refine ⟨_, fun z => quiet_call (HFC.out z) (fun e w9 h9 => ⟨h9.1, z.h.trans (h9.2.mono z.h.size)⟩), ?_⟩
  go_big_quiet_on
  repeat (first | go_big_quiet_skip | (go_big_quiet_want; go_big_quiet_op; go_big_quiet_on))
  go_big_quiet_want
  go_big_quiet_op
  refine ⟨_, fun z => quiet_call (HRC.out z) (fun e w9 h9 => ⟨h9.1, z.h.trans (h9.2.mono z.h.size)⟩), ?_⟩
  go_big_quiet_on
  repeat (first | go_big_quiet_skip | (go_big_quiet_want; go_big_quiet_op; go_big_quiet_on))
  refine wpQuiet_nil ?_
  intro w2 hw2
  have hb2 : Below W1.heap.size W1 w2 := by
    obtain ⟨z, hz⟩ := hw2
    rw [hz]
    exact z.h
  have HB2 := Lib.hid hb2
  have HW2 := Lib.hid (belC HB1.out (hb2.mono (Nat.le_refl _)))
  have HRB2 := Lib.hid ((HRB.out.below HW2.out).more HW2.out.size)
  clear hne hw2 x0 x1 x2 x3 HFC HRC hb2
  go_wp2_with fail
  refine (rsplit_any st block D d HMB.out HCB.out fin w2 HRB2.out).mono ?_
  rintro e w3 ⟨A3, m, c3, rfl, hmm, hb3, g3, rfl, hg3, hC3⟩
  have HRB3 := Lib.hid ((HRB2.out.below hb3).more hb3.size)
  have HB3 := Lib.hid (belC HB2.out (hb3.mono (Nat.le_refl _)))
  have HC3 := Lib.hid hC3
  have HMM := Lib.hid hmm
  clear hb3 hC3 hmm
  go_wp2_with fail
  refine (split_any st block D block.length d rfl HMB.out HCB.out fin w3 HRB3.out).mono ?_
  rintro e w4 ⟨A4, m4, c4, rfl, hmm, hb4, g4, rfl, hg4, hC4⟩
  have hm4 : m4 = m := hmm.trans HMM.out.symm
  subst hm4
  have HB34 := Lib.hid hb4
  have HB4 := Lib.hid (belC HB3.out (hb4.mono (Nat.le_refl _)))
  have HC4 := Lib.hid hC4
  have hmw : m4 ≤ 1000000000000 := by
    have := HMM.out
    have := pieces_le HMB.out
    omega
  clear hmm hb4 hC4
  go_upto_block 0 with fail
  go_cut [] from 13 to 66 (fun wx => Below w4.heap.size w4 wx)
  case first =>
    go_wp2_with fail
    go_loopg [13] m4 (fun n i wr => ∃ k : Nat, n + k = m4 ∧ i = .int .i64 (k : Int) ∧ Hid (Below w4.heap.size w4 wr))
    case atStart => exact ⟨0, rfl, rfl, Below.refl _ _⟩
    case round =>
      obtain ⟨k, hk, rfl, HBr⟩ := hrel
      by_cases hlt : k < m4
      · obtain ⟨A5, c5, a0, a1, a2, a3, a4⟩ := HC3.out k hlt
        obtain ⟨A6, c6, b0, b1, b2, b3, b4, -⟩ := HC4.out k hlt
        obtain ⟨G, hG⟩ : ∃ G, spG block fin st m4 k = G := ⟨_, rfl⟩
        replace a0 : w3.cell? ⟨g3, 4 * k, none⟩ = some (.int .i64 (spG block fin st m4 k).K) := a0
        replace a1 : w3.cell? ⟨g3, 4 * k + 1, none⟩ = some (.int .i64 (spG block fin st m4 k).F) := a1
        replace a2 : w3.cell? ⟨g3, 4 * k + 2, none⟩ = some (.int .i64 (spG block fin st m4 k).S) := a2
        replace a3 : w3.cell? ⟨g3, 4 * k + 3, none⟩ = some (.slice A5 (spG block fin st m4 k).body.length c5) := a3
        replace a4 : Reads w3 w3.heap.size 1 A5 (spG block fin st m4 k).body.length (bs (spG block fin st m4 k).body) := a4
        replace b0 : w4.cell? ⟨g4, 4 * k, none⟩ = some (.int .i64 (spG block fin st m4 k).K) := b0
        replace b1 : w4.cell? ⟨g4, 4 * k + 1, none⟩ = some (.int .i64 (spG block fin st m4 k).F) := b1
        replace b2 : w4.cell? ⟨g4, 4 * k + 2, none⟩ = some (.int .i64 (spG block fin st m4 k).S) := b2
        replace b3 : w4.cell? ⟨g4, 4 * k + 3, none⟩ = some (.slice A6 (spG block fin st m4 k).body.length c6) := b3
        replace b4 : Reads w4 w4.heap.size 1 A6 (spG block fin st m4 k).body.length (bs (spG block fin st m4 k).body) := b4
        rw [hG] at a0 a1 a2 a3 a4 b0 b1 b2 b3 b4
        rw [Nat.mul_comm] at a0 a1 a2 a3 b0 b1 b2 b3
        have hgr3 : g3 < wr.heap.size := Nat.lt_of_lt_of_le hg3 (Nat.le_trans HB34.out.size HBr.out.size)
        have hgr4 : g4 < wr.heap.size := Nat.lt_of_lt_of_le hg4 HBr.out.size
        have hb3r := belC HB34.out HBr.out
        have q3 : ∀ p v, w3.cell? p = some v → ∀ z : WIn (fun w' => Below wr.heap.size wr w'), z.w.cell? p = some v := fun p v h z => cell_behindC z.h (cell_behindC hb3r h)
        have q4 : ∀ p v, w4.cell? p = some v → ∀ z : WIn (fun w' => Below wr.heap.size wr w'), z.w.cell? p = some v := fun p v h z => cell_behindC z.h (cell_behindC HBr.out h)
        have x0 := q3 _ _ a0
        have x1 := q3 _ _ a1
        have x2 := q3 _ _ a2
        have x3 := q3 _ _ a3
        have y0 := q4 _ _ b0
        have y1 := q4 _ _ b1
        have y2 := q4 _ _ b2
        have y3 := q4 _ _ b3
        have HA4 := Lib.hid (a4.below hb3r |>.more hb3r.size)
        have HB4' := Lib.hid (b4.below HBr.out |>.more HBr.out.size)
        clear a0 a1 a2 a3 a4 b0 b1 b2 b3 b4 hG hb3r q3 q4
        go_upto_region 10 with fail
        refine quiet_in (fun w' => Below wr.heap.size wr w') (by kernel_rfl) (by kernel_rfl) ?_ fun hne => ?_
        · exact (Below.refl _ _).drew
        repeat (first | go_big_quiet_skip | (go_big_quiet_want; go_big_quiet_op; go_big_quiet_on))
        go_big_quiet_want
        go_big_quiet_op
        refine ⟨_, fun z => quiet_call (same_frame G A6 c6 A5 c5 z.w ((HB4'.out.below z.h).more z.h.size) ((HA4.out.below z.h).more z.h.size)) (fun e w9 h9 => ⟨h9.1, z.h.trans (h9.2.mono z.h.size)⟩), ?_⟩
        go_big_quiet_on
        repeat (first | go_big_quiet_skip | (go_big_quiet_want; go_big_quiet_op; go_big_quiet_on))
        refine wpQuiet_nil ?_
        intro w5 hw5
        have hb5 : Below wr.heap.size wr w5 := by
          obtain ⟨z, hz⟩ := hw5
          rw [hz]
          exact z.h
        have HB5 := Lib.hid (belC HBr.out hb5)
        clear hne hw5 x0 x1 x2 x3 y0 y1 y2 y3 hb5
        go_wp2_with fail
        go_roundg (gk - 1)
        case measure => omega
        case rel => exact ⟨k + 1, by omega, by go_num, HB5.out⟩
      · have hkm : k = m4 := by omega
        subst hkm
        go_wp2
        go_meet
        exact HBr.out
  case rest =>
    have hb5 := belC HB4.out hcut
    generalize wc = w5 at *
    have HB5 := Lib.hid hb5
    have HW5 := Lib.hid (show Below w.heap.size w w5 from HB1.out.trans (hb5.mono HB1.out.size))
    clear hcut hb5 HC3 HC4 HMM HB34 HB3 HB4 HB2 HW2 HRB2 HRB3 hmw hg3 hg4
    go_upto_block 2 with fail
    go_cut [15, 16] from 13 to 106 (fun e b wx => ∃ (E : Nat) (L : List UInt8) (A' : Option Addr) (c' : Nat), e = .int .i64 (E : Int) ∧ b = .slice A' L.length c' ∧ ((E = 0 ∧ L = sAll l ∧ (∀ p ∈ l, sOk p)) ∨ (E = 1 ∧ setsE l = 1)) ∧ L.length ≤ 6 * l.length ∧ L.length ≤ c' ∧ Reads wx wx.heap.size 1 A' L.length (bs L) ∧ Below w5.heap.size w5 wx)
    case first => as_aux_lemma =>
      go_wp2_with fail
      go_loopg [15, 16, 17] l.length (fun n e b i wr => ∃ (k E : Nat) (L : List UInt8), n + k = l.length ∧ i = .int .i64 (k : Int) ∧ e = .int .i64 (E : Int) ∧ Hid (wr.ownsRow w5.heap.size 5 1 b L.length (bs L)) ∧ Hid (L.length ≤ 6 * k) ∧ Hid ((E = 0 ∧ L = sAll (l.take k) ∧ (∀ p ∈ l.take k, sOk p)) ∨ (E = 1 ∧ setsE l = 1)) ∧ Hid (Below w5.heap.size w5 wr))
      case atStart => exact ⟨0, 0, [], rfl, rfl, rfl, World.ownsRow_nil _ _ _ _, Nat.zero_le _, .inl ⟨rfl, by simp [sAll], by simp⟩, Below.refl _ _⟩
      case round =>
        obtain ⟨k, E, L, hk, rfl, rfl, HOWN, HLL, HEL, HBr⟩ := hrel
        rcases HEL.out with ⟨rfl, hLs, hok⟩ | ⟨rfl, hbad⟩
        · have HLS := Lib.hid hLs
          have HOK := Lib.hid hok
          clear hLs hok
          by_cases hlt : k < l.length
          · have hbw := HW5.out.trans (HBr.out.mono HW5.out.size)
            obtain ⟨pb, po, hBe, hpb, e0, e1⟩ := reads_pair (HRL.out.below hbw) hlt
            subst hBe
            obtain ⟨⟨x, y⟩, hp⟩ : ∃ p, l[k] = p := ⟨_, rfl⟩
            rw [hp] at e0 e1
            simp only at e0 e1
            have HPM := Lib.hid (show (x, y) ∈ l by rw [← hp]; exact List.getElem_mem hlt)
            have HSN := Lib.hid (sAll_snoc l k hlt)
            have HP := Lib.hid hp
            have hpr : pb < wr.heap.size := Nat.lt_of_lt_of_le hpb hbw.size
            clear hp hbw
            go_wp2_with fail
            refine (rbig_own x 2 wr).mono ?_
            rintro e w6 ⟨A6, c6, rfl, hg6, -⟩
            have e1' := cell_behindC hg6.2.2 e1
            have hpr6 := Nat.lt_of_lt_of_le hpr hg6.2.2.size
            have HG6 := Lib.hid hg6
            clear hg6 e0 e1
            go_wp2_with fail
            refine (rbig_own y 4 w6).mono ?_
            rintro e w7 ⟨A7, c7, rfl, hg7, hob⟩
            have HB57 := Lib.hid ((HBr.out.trans (HG6.out.2.2.mono HBr.out.size)).trans (hg7.2.2.mono (Nat.le_trans HBr.out.size HG6.out.2.2.size)))
            have HS7 := Lib.hid HB57.out.size
            have HO7 := Lib.hid (own_belowB (own_belowB HOWN.out HG6.out.2.2) hg7.2.2)
            have HRA := Lib.hid ((HG6.out.2.1.below hg7.2.2).more hg7.2.2.size)
            have HLT := Lib.hid (fun g (e : _ = some g) => Nat.lt_of_lt_of_le (HOWN.out.lt g e).2 HG6.out.2.2.size)
            clear hg7 e1' hpr6 hpr
            have hla := bigL_le x 2
            have hlb := bigL_le y 4
            obtain ⟨a, ha⟩ : ∃ a, bigL x 2 = a := ⟨_, rfl⟩
            obtain ⟨b, hb⟩ : ∃ b, bigL y 4 = b := ⟨_, rfl⟩
            rw [ha] at hla HRA ⊢
            rw [hb] at hlb hob ⊢
            have HOB := Lib.hid hob
            have hsl : sL (x, y) = a ++ b := by unfold sL; rw [ha, hb]
            have HSL := Lib.hid hsl
            have hbig1 : L.length + a.length ≤ 140737488355328 := by have := HLL.out; have := HML.out; simp at hla; omega
            have hbig2 : (L ++ a).length + b.length ≤ 140737488355328 := by rw [List.length_append]; have := HLL.out; have := HML.out; simp at hla hlb; omega
            have HLEN := Lib.hid (show ((L ++ a) ++ b).length ≤ 6 * (k + 1) by rw [List.length_append, List.length_append]; have := HLL.out; simp at hla hlb; omega)
            clear hla hlb ha hb hsl hob
            by_cases hE2 : bigE x 2 = 0
            · by_cases hE4 : bigE y 4 = 0
              · have HFIN := Lib.hid (show (L ++ a) ++ b = sAll (l.take (k + 1)) ∧ (∀ p ∈ l.take (k + 1), sOk p) from ⟨by rw [HSN.out, HP.out, HSL.out, HLS.out, List.append_assoc], fun q hq => by
                  rw [List.take_succ_eq_append_getElem hlt, List.mem_append] at hq
                  rcases hq with h | h
                  · exact HOK.out q h
                  · rw [List.mem_singleton.1 h, HP.out]
                    exact ⟨hE2, hE4⟩⟩)
                rw [hE2, hE4]
                clear hE2 hE4
                go_upto_region 23 with (at_builtin; refine wpList_join2 rfl _ _ rfl w5.heap.size _ _ _ rfl HO7.out w7.heap.size A6 a.length c6 (bs a) rfl HRA.out (bs_one _) hbig1 HS7.out ?_; intro v8 w8 hown8 hg8 hb8; rw [← bs_append, ← List.length_append] at hown8; have HO8 := Lib.hid hown8; have HB8 := Lib.hid hb8; have HS8 := Lib.hid (Nat.le_trans HS7.out hg8.size); have HRB8 := Lib.hid (Reads.of_own (own_far HOB.out hg8 HLT.out)); clear hown8 hb8 hg8)
                go_wp2_with (at_builtin; refine wpList_join2 rfl _ _ rfl w5.heap.size _ _ _ rfl HO8.out w8.heap.size A7 b.length c7 (bs b) rfl HRB8.out (bs_one _) hbig2 HS8.out ?_; intro v9 w9 hown9 hg9 hb9; rw [← bs_append, ← List.length_append] at hown9; have HO9 := Lib.hid hown9; have HB9 := Lib.hid hb9; clear hown9 hb9 hg9)
                go_roundg (gk - 1)
                case measure => omega
                case rel => exact ⟨k + 1, 0, (L ++ a) ++ b, by omega, by go_num, rfl, HO9.out, HLEN.out, .inl ⟨rfl, HFIN.out.1, HFIN.out.2⟩, HB57.out.trans (HB8.out.trans HB9.out)⟩
              · have hE4' : bigE y 4 = 1 := (bigE_01 y 4).resolve_left hE4
                have HFIN := Lib.hid (setsE_bad HPM.out (fun h => hE4 h.2))
                rw [hE2, hE4']
                clear hE2 hE4 hE4'
                go_upto_region 23 with (at_builtin; refine wpList_join2 rfl _ _ rfl w5.heap.size _ _ _ rfl HO7.out w7.heap.size A6 a.length c6 (bs a) rfl HRA.out (bs_one _) hbig1 HS7.out ?_; intro v8 w8 hown8 hg8 hb8; rw [← bs_append, ← List.length_append] at hown8; have HO8 := Lib.hid hown8; have HB8 := Lib.hid hb8; have HS8 := Lib.hid (Nat.le_trans HS7.out hg8.size); have HRB8 := Lib.hid (Reads.of_own (own_far HOB.out hg8 HLT.out)); clear hown8 hb8 hg8)
                go_wp2_with (at_builtin; refine wpList_join2 rfl _ _ rfl w5.heap.size _ _ _ rfl HO8.out w8.heap.size A7 b.length c7 (bs b) rfl HRB8.out (bs_one _) hbig2 HS8.out ?_; intro v9 w9 hown9 hg9 hb9; rw [← bs_append, ← List.length_append] at hown9; have HO9 := Lib.hid hown9; have HB9 := Lib.hid hb9; clear hown9 hb9 hg9)
                go_roundg (gk - 1)
                case measure => omega
                case rel => exact ⟨k + 1, 1, (L ++ a) ++ b, by omega, by go_num, rfl, HO9.out, HLEN.out, .inr ⟨rfl, HFIN.out⟩, HB57.out.trans (HB8.out.trans HB9.out)⟩
            · have hE2' : bigE x 2 = 1 := (bigE_01 x 2).resolve_left hE2
              have HFIN := Lib.hid (setsE_bad HPM.out (fun h => hE2 h.1))
              rw [hE2']
              clear hE2 hE2'
              go_upto_region 23 with (at_builtin; refine wpList_join2 rfl _ _ rfl w5.heap.size _ _ _ rfl HO7.out w7.heap.size A6 a.length c6 (bs a) rfl HRA.out (bs_one _) hbig1 HS7.out ?_; intro v8 w8 hown8 hg8 hb8; rw [← bs_append, ← List.length_append] at hown8; have HO8 := Lib.hid hown8; have HB8 := Lib.hid hb8; have HS8 := Lib.hid (Nat.le_trans HS7.out hg8.size); have HRB8 := Lib.hid (Reads.of_own (own_far HOB.out hg8 HLT.out)); clear hown8 hb8 hg8)
              go_wp2_with (at_builtin; refine wpList_join2 rfl _ _ rfl w5.heap.size _ _ _ rfl HO8.out w8.heap.size A7 b.length c7 (bs b) rfl HRB8.out (bs_one _) hbig2 HS8.out ?_; intro v9 w9 hown9 hg9 hb9; rw [← bs_append, ← List.length_append] at hown9; have HO9 := Lib.hid hown9; have HB9 := Lib.hid hb9; clear hown9 hb9 hg9)
              go_roundg (gk - 1)
              case measure => omega
              case rel => exact ⟨k + 1, 1, (L ++ a) ++ b, by omega, by go_num, rfl, HO9.out, HLEN.out, .inr ⟨rfl, HFIN.out⟩, HB57.out.trans (HB8.out.trans HB9.out)⟩
          · have hke : l.take k = l := List.take_of_length_le (by omega)
            have hLs := HLS.out
            have hok := HOK.out
            rw [hke] at hLs hok
            have hL6 : L.length ≤ 6 * l.length := by have := HLL.out; omega
            obtain ⟨A', c', rfl, hc', hr'⟩ := isBytes_of_own HOWN.out
            have HH := Lib.hid (And.intro hLs (And.intro hok (And.intro hL6 (And.intro hc' hr'))))
            clear hLs hok hL6 hc' hr' hke
            go_wp2
            go_meet
            exact ⟨0, L, A', c', rfl, rfl, .inl ⟨rfl, HH.out.1, HH.out.2.1⟩, HH.out.2.2.1, HH.out.2.2.2.1, HH.out.2.2.2.2, HBr.out⟩
        · have HBAD := Lib.hid hbad
          have hL6 : L.length ≤ 6 * l.length := by have := HLL.out; omega
          obtain ⟨A', c', rfl, hc', hr'⟩ := isBytes_of_own HOWN.out
          have HH := Lib.hid (And.intro hL6 (And.intro hc' hr'))
          clear hbad hL6 hc' hr'
          by_cases hlt : k < l.length
          · go_wp2
            go_meet
            exact ⟨1, L, A', c', rfl, rfl, .inr ⟨rfl, HBAD.out⟩, HH.out.1, HH.out.2.1, HH.out.2.2, HBr.out⟩
          · go_wp2
            go_meet
            exact ⟨1, L, A', c', rfl, rfl, .inr ⟨rfl, HBAD.out⟩, HH.out.1, HH.out.2.1, HH.out.2.2, HBr.out⟩
    case rest =>
      obtain ⟨E, L, A6, c6, rfl, rfl, hEL, hL6, hc6, hr6, hb6⟩ := hcut
      generalize wc = w6 at *
      have HB6 := Lib.hid (belC HB5.out hb6)
      have HW6 := Lib.hid (show Below w.heap.size w w6 from HW5.out.trans (hb6.mono HW5.out.size))
      obtain ⟨N, hN⟩ : ∃ N, L.length = N := ⟨_, rfl⟩
      have HL := Lib.hid (And.intro hL6 (And.intro hc6 hr6))
      have HN := Lib.hid hN
      have HEL := Lib.hid hEL
      have hN6 : N ≤ 60000000000000 := by have := HML.out; omega
      rw [hN]
      clear hEL hL6 hc6 hr6 hb6 hN HB5 HW5
      go_upto_region 24 with fail
      go_cut [113] from 107 to 113 (fun x wx => x = .bool (decide (E = 0 ∧ 1024 < N)) ∧ wx = w6)
      case first =>
        rcases HEL.out with ⟨rfl, -, -⟩ | ⟨rfl, -⟩
        · by_cases hbig : 1024 < N
          · have i1 : (1024 : Int) < ((N : Nat) : Int) := by omega
            have i2 := decide_eq_true i1
            go_wp2
            go_meet
            exact ⟨by simp [hbig], rfl⟩
          · have i1 : ¬ (1024 : Int) < ((N : Nat) : Int) := by omega
            have i2 := decide_eq_false i1
            go_wp2
            go_meet
            exact ⟨by simp [hbig], rfl⟩
        · go_wp2
          go_meet
          exact ⟨by simp, rfl⟩
      case rest =>
        obtain ⟨rfl, hw⟩ := hcut
        have hw2 := hw.symm
        subst hw2
        clear hw
        obtain ⟨SE, hSE⟩ : ∃ SE, setsE l = SE := ⟨_, rfl⟩
        have HSE := Lib.hid hSE
        have hval : SE = if E = 0 ∧ 1024 < N then 4 else E := by
          rw [← hSE]
          rcases HEL.out with ⟨h0, h1, h2⟩ | ⟨h0, h1⟩
          · have hl6 : N = 6 * l.length := by rw [← HN.out, h1]; exact sAll_length h2
            by_cases hbig : 1024 < N
            · rw [if_pos ⟨h0, hbig⟩]
              exact setsE_big h2 (by omega)
            · rw [if_neg (fun h => hbig h.2), h0]
              exact setsE_ok h2 (by omega)
          · rw [if_neg (fun h => by omega), h1, h0]
        have HV := Lib.hid hval
        clear hval hSE
        go_upto_if 113 with fail
        go_cut [15, 16] from 15 to 113 (fun e b wx => e = .int .i64 ((SE : Nat) : Int) ∧ b = .slice A6 N c6 ∧ wx = w6)
        case first =>
          by_cases h0 : E = 0 ∧ 1024 < N
          · have hd : decide (E = 0 ∧ 1024 < N) = true := decide_eq_true h0
            have hv := HV.out
            rw [if_pos h0] at hv
            rw [hd]
            clear h0
            go_wp2
            go_meet
            exact ⟨by rw [hv]; rfl, rfl, rfl⟩
          · have hd : decide (E = 0 ∧ 1024 < N) = false := decide_eq_false h0
            have hv := Lib.hid HV.out
            have hv2 : SE = E := by have := HV.out; rwa [if_neg h0] at this
            rw [hd]
            clear h0 hv
            subst hv2
            go_wp2
            go_meet
            exact ⟨rfl, rfl, rfl⟩
        case rest =>
          obtain ⟨rfl, rfl, hw⟩ := hcut
          have hw2 := hw.symm
          subst hw2
          clear hw
          go_upto_if 115 with fail
          go_cut [16] from 16 to 115 (fun b wx => (∃ A' c', b = .slice A' (setsB l).length c' ∧ (setsB l).length ≤ c' ∧ Reads wx wx.heap.size 1 A' (setsB l).length (bs (setsB l))) ∧ wx = w6)
          case first =>
            by_cases h0 : SE = 0
            · have hsb : setsB l = L := by
                rw [setsB_ok (HSE.out.trans h0)]
                have hv := HV.out
                rcases HEL.out with ⟨_, h1, _⟩ | ⟨h1, _⟩
                · exact h1.symm
                · rw [if_neg (fun h => by omega)] at hv
                  omega
              have HSB := Lib.hid hsb
              clear hsb
              subst h0
              go_wp2
              go_meet
              exact ⟨⟨A6, c6, by rw [HSB.out, HN.out], by rw [HSB.out]; exact HL.out.2.1, by rw [HSB.out]; exact HL.out.2.2⟩, rfl⟩
            · have hsb : setsB l = [] := setsB_no (by rw [HSE.out]; exact h0)
              have i1 : ¬ ((SE : Nat) : Int) = 0 := by omega
              have i2 : (((SE : Nat) : Int) == 0) = false := by simpa using h0
              have i3 : (((SE : Nat) : Int) != 0) = true := by simpa using h0
              have HSB := Lib.hid hsb
              clear hsb
              go_wp2
              go_meet
              exact ⟨⟨none, 0, by rw [HSB.out]; rfl, by rw [HSB.out]; exact Nat.le_refl _, by rw [HSB.out]; exact Reads.none_⟩, rfl⟩
          case rest =>
            obtain ⟨⟨A7, c7, rfl, hc7, hr7⟩, hw⟩ := hcut
            have hw2 := hw.symm
            subst hw2
            clear hw
            have HSB := Lib.hid (And.intro hc7 hr7)
            have HRL6 := Lib.hid ((HRL.out.below HW6.out).more HW6.out.size)
            clear hc7 hr7 HL HN HEL HV hN6 N L E A6 c6
            have HSA := Lib.hid (sets_any l B bc HML.out w6 HRL6.out)
            rw [HSE.out] at HSA
            obtain ⟨sb, hsb⟩ : ∃ sb, setsB l = sb := ⟨_, rfl⟩
            rw [hsb] at HSA HSB ⊢
            clear hsb
            go_wp2_with fail
            refine Calls.mono HSA.out ?_
            rintro e w7 ⟨A8, c8, rfl, hg7⟩
            have HG7 := Lib.hid hg7
            have HE7 := Lib.hid (HE.out.next (HW6.out.trans (hg7.2.2.mono HW6.out.size)))
            clear hg7
            go_wp2_with fail
            refine (same_true SE w7 HE7.out).mono ?_
            rintro e w8 ⟨rfl, hb8⟩
            have HB8 := Lib.hid (belC (belC HB6.out HG7.out.2.2) hb8)
            have HR8 := Lib.hid ((HG7.out.2.1.below hb8).more hb8.size)
            have HSB8 := Lib.hid (And.intro HSB.out.1 ((HSB.out.2.below (belC HG7.out.2.2 hb8)).more (belC HG7.out.2.2 hb8).size))
            have HC8 := Lib.hid HG7.out.1
            have HE8 := Lib.hid (HE7.out.next hb8)
            have hk8 := HK1.out.below HB8.out HK1.out.lt
            have q3 := hk8.cell 3
            clear hb8 HG7 HSB HSA HE7 HRL6 HSE HB6 HW6 hk8
            obtain ⟨n, hn⟩ : ∃ n, f.body.length = n := ⟨_, rfl⟩
            have HN := Lib.hid hn
            rw [hn] at q3
            obtain ⟨E3, hE3⟩ : ∃ E3 : Nat, (if n % 6 = 0 then 0 else 3) = E3 := ⟨_, rfl⟩
            have HE3 := Lib.hid hE3
            clear hE3 hn
            go_upto_if 128 with fail
            clear q3
            go_cut [15] from 116 to 128 (fun e wx => e = .int .i64 ((E3 : Nat) : Int) ∧ wx = w8)
            case first =>
              by_cases h6 : n % 6 = 0
              · have i1 : ((n : Nat) : Int) % 6 = 0 := by omega
                have i2 : (((n : Nat) : Int) % 6 == 0) = true := by simpa using i1
                have i3 : (((n : Nat) : Int) % 6 != 0) = false := by simpa using i1
                have HV := Lib.hid (show E3 = 0 by rw [← HE3.out, if_pos h6])
                clear h6
                go_wp2
                go_meet
                exact ⟨by rw [HV.out]; rfl, rfl⟩
              · have i1 : ¬ ((n : Nat) : Int) % 6 = 0 := by omega
                have i2 : (((n : Nat) : Int) % 6 == 0) = false := by simpa using i1
                have i3 : (((n : Nat) : Int) % 6 != 0) = true := by simpa using i1
                have HV := Lib.hid (show E3 = 3 by rw [← HE3.out, if_neg h6])
                clear h6
                go_wp2
                go_meet
                exact ⟨by rw [HV.out]; rfl, rfl⟩
            case rest =>
              obtain ⟨rfl, hw⟩ := hcut
              have hw2 := hw.symm
              subst hw2
              clear hw
              go_upto_block 4 with fail
              go_cut [15, 25] from 129 to 162 (fun e s wx => ∃ (E : Nat) (P : List Pr) (A' : Option Addr) (c' : Nat), e = .int .i64 (E : Int) ∧ s = .slice A' P.length c' ∧ Reads wx wx.heap.size 2 A' P.length (pvs P) ∧ E = rsE f.body ∧ (E = 0 → P = rsL f.body) ∧ Below w8.heap.size w8 wx)
              case first => as_aux_lemma =>
                obtain ⟨i0, hi, hz0, hz1, hz2⟩ := info_parts pair_info
                have HI := Lib.hid hi
                have HZ0 := Lib.hid hz0
                have HZ1 := Lib.hid hz1
                have HZ2 := Lib.hid hz2
                have hn1 : n ≤ 1000000000000 := by have := HMF.out; have := HN.out; omega
                obtain ⟨M, hM⟩ : ∃ M, n / 6 = M := ⟨_, rfl⟩
                have HM := Lib.hid hM
                have hM1 : M ≤ 200000000000 := by omega
                clear hi hz0 hz1 hz2 hn1 hM
                go_wp2_with fail
                go_loopg [15, 25, 26] M (fun n' e s i wr => ∃ (k E : Nat) (P : List Pr), n' + k = M ∧ i = .int .i64 ((6 * k : Nat) : Int) ∧ e = .int .i64 (E : Int) ∧ Hid (wr.ownsRow w8.heap.size 69 2 s P.length (pvs P)) ∧ Hid (P.length ≤ k) ∧ Hid ((E = 3 ∧ n % 6 ≠ 0) ∨ (E = 0 ∧ n % 6 = 0 ∧ P = pc6s f.body k ∧ (∀ j, j < k → ¬ tooW f.body j)) ∨ (E = 10 ∧ rsE f.body = 10)) ∧ Hid (Below w8.heap.size w8 wr))
                case atStart =>
                  refine ⟨0, E3, [], rfl, rfl, rfl, World.ownsRow_nil _ _ _ _, Nat.zero_le _, ?_, Below.refl _ _⟩
                  by_cases h6 : n % 6 = 0
                  · exact .inr (.inl ⟨by rw [← HE3.out, if_pos h6], h6, rfl, fun j hj => by omega⟩)
                  · exact .inl ⟨by rw [← HE3.out, if_neg h6], h6⟩
                case round =>
                  obtain ⟨k, E, P, hk, rfl, rfl, HOWN, HPL, HST, HBr⟩ := hrel
                  rcases HST.out with ⟨rfl, h6⟩ | ⟨rfl, h6, hP, hok⟩ | ⟨rfl, h10⟩
                  · have HR3 := Lib.hid (rsE_shape (b := f.body) (by rw [HN.out]; exact h6))
                    obtain ⟨A', c', rfl⟩ := own_slice HOWN.out
                    clear h6
                    go_wp2
                    go_meet
                    exact ⟨3, P, A', c', rfl, rfl, Reads.of_own HOWN.out, HR3.out.symm, fun h => absurd h (by decide), HBr.out⟩
                  · have H6 := Lib.hid h6
                    have HPE := Lib.hid hP
                    have HOK := Lib.hid hok
                    have hb8r := belC HB8.out HBr.out
                    have hkr := HK1.out.below hb8r HK1.out.lt
                    have q3 := hkr.cell 3
                    have HRr := Lib.hid ((HRF1.out.below hb8r).more hb8r.size)
                    have HN2 := Lib.hid HN.out
                    rw [HN.out] at q3
                    clear h6 hP hok hb8r hkr
                    by_cases hlt : k < M
                    · obtain ⟨bb, off, y0, hAe, hbB, -⟩ := reads_head HRr.out (by have := HN.out; have := HM.out; omega)
                      subst hAe
                      obtain ⟨I, hI⟩ : ∃ I, 6 * k = I := ⟨_, rfl⟩
                      have hI6 : I + 6 ≤ n := by have := HM.out; omega
                      have hnc : n ≤ c := by have := HCF.out; have := HN.out; omega
                      have hn1 : n ≤ 1000000000000 := by have := HMF.out; have := HN.out; omega
                      have h1 := reads_mid (c := c) HRr.out (at_ := I) (n := 2) (by have := HN.out; omega) (by have := HN.out; omega)
                      have h2 := reads_mid (c := c) HRr.out (at_ := I + 2) (n := 4) (by have := HN.out; omega) (by have := HN.out; omega)
                      rw [if_neg (by omega)] at h1 h2
                      have hid := pc6_id f.body k
                      have hx := pc6_x f.body k
                      rw [hI] at hid hx
                      have hl2 : ((f.body.drop I).take 2).length = 2 := by have := HN.out; simp; omega
                      have hl4 : ((f.body.drop (I + 2)).take 4).length = 4 := by have := HN.out; simp; omega
                      have H1 := Lib.hid h1
                      have H2 := Lib.hid h2
                      have HL2 := Lib.hid hl2
                      have HL4 := Lib.hid hl4
                      have HIE := Lib.hid hI
                      have HID := Lib.hid hid
                      have HX := Lib.hid hx
                      rw [hI]
                      have i1 : ((I : Nat) : Int) < ((n : Nat) : Int) := by omega
                      clear hid hx h1 h2 hl2 hl4 hI
                      go_wp2_with fail
                      refine (rword_any ((f.body.drop I).take 2) (by rw [HL2.out]; omega) _ 2 _ HL2.out.symm wr.heap.size _ (by rw [HL2.out]; exact H1.out)).mono ?_
                      rintro e w' ⟨rfl, rfl⟩
                      go_wp2_with fail
                      refine (rword_any ((f.body.drop (I + 2)).take 4) (by rw [HL4.out]; omega) _ 4 _ HL4.out.symm wr.heap.size _ (by rw [HL4.out]; exact H2.out)).mono ?_
                      rintro e w' ⟨rfl, rfl⟩
                      generalize beNat ((f.body.drop I).take 2) = id at *
                      generalize beNat ((f.body.drop (I + 2)).take 4) = x at *
                      have HOT := Lib.hid (HOWN.out.alloc (.cells #[.int .i64 ((id : Nat) : Int), .int .i64 ((x : Nat) : Int)] 69))
                      have HBA := Lib.hid (HBr.out.alloc HBr.out.size (.cells #[.int .i64 ((id : Nat) : Int), .int .i64 ((x : Nat) : Int)] 69))
                      have HBT := Lib.hid HBA.out.size
                      have HP1 := Lib.hid (show (P ++ [((id : Int), (x : Int))]).length ≤ k + 1 by rw [List.length_append]; have := HPL.out; simp; omega)
                      have hmx : P.length + 1 ≤ maxLen := by have := HPL.out; unfold maxLen; omega
                      have hPk : P.length ≤ 200000000000 := by have := HPL.out; omega
                      have HKM := Lib.hid hlt
                      have HW6k := Lib.hid (wrap6 (show k ≤ 200000000000 by omega))
                      clear q3 hI6 hnc hn1
                      by_cases hov : 2147483647 < x
                      · have i2 : (2147483647 : Int) < ((x : Nat) : Int) := by omega
                        have i3 := decide_eq_true i2
                        have HFIN := Lib.hid (show rsE f.body = 10 from rsE_over (by rw [HN.out]; exact H6.out) (j := k) (by rw [HN.out, HM.out]; exact hlt) (by unfold tooW; rw [HX.out]; exact hov))
                        clear hov
                        go_wp2_with (at_builtin; refine wpList_append_any _ rfl _ _ 65 rfl w8.heap.size 69 i0 (.agg #[.int .i64 0, .int .i64 0]) 2 16 Tryd.underlying65 HI.out HZ0.out HZ1.out HZ2.out rfl (by decide) _ _ _ rfl HOT.out (wr.heap.size + 1) (some ⟨wr.heap.size, 0, none⟩) 1 1 [.int .i64 ((id : Nat) : Int), .int .i64 ((x : Nat) : Int)] rfl (pair_tmp wr id x) (pair_one id x) hmx (by omega) HBT.out ?_; intro v9 w9 hown9 hg9 hv9; have HO9 := Lib.hid hown9; have HB9 := Lib.hid (HBA.out.grown hg9 HBA.out.size (fun j e => (HOT.out.lt j e).1)); clear hown9 hg9 hv9)
                        go_roundg (gk - 1)
                        case measure => have := HKM.out; omega
                        case rel => exact ⟨k + 1, 10, P ++ [((id : Int), (x : Int))], by have := HKM.out; omega, by rw [← HIE.out]; exact congrArg (Value.int .i64) HW6k.out, rfl, by have h3 := HO9.out; rw [pvs_snoc, List.length_append]; exact h3, HP1.out, .inr (.inr ⟨rfl, HFIN.out⟩), HB9.out⟩
                      · have i2 : ¬ (2147483647 : Int) < ((x : Nat) : Int) := by omega
                        have i3 := decide_eq_false i2
                        have HFIN := Lib.hid (show P ++ [((id : Int), (x : Int))] = pc6s f.body (k + 1) ∧ ∀ j, j < k + 1 → ¬ tooW f.body j from ⟨by rw [pc6s_snoc, HPE.out, HID.out, HX.out], fun j hj => by
                          rcases Nat.lt_succ_iff_lt_or_eq.1 hj with h | h
                          · exact HOK.out j h
                          · subst h
                            unfold tooW
                            rw [HX.out]
                            exact hov⟩)
                        clear hov
                        go_wp2_with (at_builtin; refine wpList_append_any _ rfl _ _ 65 rfl w8.heap.size 69 i0 (.agg #[.int .i64 0, .int .i64 0]) 2 16 Tryd.underlying65 HI.out HZ0.out HZ1.out HZ2.out rfl (by decide) _ _ _ rfl HOT.out (wr.heap.size + 1) (some ⟨wr.heap.size, 0, none⟩) 1 1 [.int .i64 ((id : Nat) : Int), .int .i64 ((x : Nat) : Int)] rfl (pair_tmp wr id x) (pair_one id x) hmx (by omega) HBT.out ?_; intro v9 w9 hown9 hg9 hv9; have HO9 := Lib.hid hown9; have HB9 := Lib.hid (HBA.out.grown hg9 HBA.out.size (fun j e => (HOT.out.lt j e).1)); clear hown9 hg9 hv9)
                        go_roundg (gk - 1)
                        case measure => have := HKM.out; omega
                        case rel => exact ⟨k + 1, 0, P ++ [((id : Int), (x : Int))], by have := HKM.out; omega, by rw [← HIE.out]; exact congrArg (Value.int .i64) HW6k.out, rfl, by have h3 := HO9.out; rw [pvs_snoc, List.length_append]; exact h3, HP1.out, .inr (.inl ⟨rfl, H6.out, HFIN.out.1, HFIN.out.2⟩), HB9.out⟩
                    · have hkm : k = M := by omega
                      have hin : ¬ ((6 * k : Nat) : Int) < ((n : Nat) : Int) := by have := HM.out; have := H6.out; omega
                      have HFIN := Lib.hid (show (0 : Nat) = rsE f.body ∧ P = rsL f.body from by
                        have hE : rsE f.body = 0 := rsE_ok (by rw [HN.out]; exact H6.out) (fun j hj => HOK.out j (by rw [HN.out, HM.out] at hj; omega))
                        exact ⟨hE.symm, by rw [rsL_ok hE, HPE.out, HN.out, HM.out, hkm]⟩)
                      obtain ⟨A', c', rfl⟩ := own_slice HOWN.out
                      obtain ⟨I, hI⟩ : ∃ I : Int, ((6 * k : Nat) : Int) = I := ⟨_, rfl⟩
                      rw [hI] at hin ⊢
                      have hin2 := decide_eq_false hin
                      clear hI hlt hkm
                      go_wp2
                      go_meet
                      exact ⟨0, P, A', c', rfl, rfl, Reads.of_own HOWN.out, HFIN.out.1, fun _ => HFIN.out.2, HBr.out⟩
                  · have H10 := Lib.hid h10
                    obtain ⟨A', c', rfl⟩ := own_slice HOWN.out
                    clear h10
                    go_wp2
                    go_meet
                    exact ⟨10, P, A', c', rfl, rfl, Reads.of_own HOWN.out, H10.out.symm, fun h => absurd h (by decide), HBr.out⟩
              case rest =>
                obtain ⟨E, P, A9, c9, rfl, rfl, hr9, hE9, hP9, hb9⟩ := hcut
                generalize wc = w9 at *
                have HB9 := Lib.hid (belC HB8.out hb9)
                have HE9 := Lib.hid (HE8.out.next hb9)
                have HR9 := Lib.hid ((HR8.out.below hb9).more hb9.size)
                have HSB9 := Lib.hid ((HSB8.out.2.below hb9).more hb9.size)
                have HRS := Lib.hid (And.intro hE9 (And.intro hP9 hr9))
                obtain ⟨PL, hPL⟩ : ∃ PL, P.length = PL := ⟨_, rfl⟩
                have HPL := Lib.hid hPL
                rw [hPL]
                clear hr9 hE9 hP9 hb9 hPL HR8 HSB8 HE8 HB8 HE3
                go_upto_if 164 with fail
                go_cut [25] from 163 to 164 (fun s wx => (∃ A' c', s = .slice A' (rsL f.body).length c' ∧ Reads wx wx.heap.size 2 A' (rsL f.body).length (pvs (rsL f.body))) ∧ wx = w9)
                case first =>
                  by_cases h0 : E = 0
                  · have HPE := Lib.hid (HRS.out.2.1 h0)
                    have HRP := Lib.hid HRS.out.2.2
                    subst h0
                    go_wp2
                    go_meet
                    exact ⟨⟨A9, c9, by rw [← HPE.out, HPL.out], by rw [← HPE.out]; exact HRP.out⟩, rfl⟩
                  · have HNO := Lib.hid (rsL_no (b := f.body) (by rw [← HRS.out.1]; exact h0))
                    have i1 : ¬ ((E : Nat) : Int) = 0 := by omega
                    have i2 : (((E : Nat) : Int) == 0) = false := by simpa using h0
                    have i3 : (((E : Nat) : Int) != 0) = true := by simpa using h0
                    go_wp2
                    go_meet
                    exact ⟨⟨none, 0, by rw [HNO.out]; rfl, by rw [HNO.out]; exact Reads.none_⟩, rfl⟩
                case rest =>
                  obtain ⟨⟨A10, c10, rfl, hr10⟩, hw⟩ := hcut
                  have hw2 := hw.symm
                  subst hw2
                  clear hw
                  have HEE := Lib.hid HRS.out.1
                  have HR10 := Lib.hid hr10
                  clear hr10 HRS HPL
                  have hk9 := HK1.out.below HB9.out HK1.out.lt
                  have q3 := hk9.cell 3
                  have HRD := Lib.hid (rsets_any f.body A c HCF.out HMF.out w9 ((HRF1.out.below HB9.out).more HB9.out.size))
                  rw [← HEE.out] at HRD
                  have hRl : (rsL f.body).length ≤ 1000000000000 := Nat.le_trans (rsL_len _) HMF.out
                  obtain ⟨R, hR⟩ : ∃ R, rsL f.body = R := ⟨_, rfl⟩
                  rw [hR] at HR10 HRD hRl ⊢
                  clear hk9 hR HEE
                  go_wp2_with fail
                  refine Calls.mono HRD.out ?_
                  rintro e w10 ⟨A11, c11, rfl, hb10, hr11⟩
                  have HE10 := Lib.hid (HE9.out.next hb10)
                  have HB10 := Lib.hid hb10
                  have HR11 := Lib.hid hr11
                  clear q3 hb10 hr11
                  go_wp2_with fail
                  refine (same_true E w10 HE10.out).mono ?_
                  rintro e w11 ⟨rfl, hb11⟩
                  have hb911 := belC HB10.out hb11
                  have k1 := run_str (w := w11) ((HR9.out.below hb911).more hb911.size) c8
                  have k2 := run_str (w := w11) ((HSB9.out.below hb911).more hb911.size) c7
                  have HX1 := Lib.hid ((HR11.out.below hb11).more hb11.size)
                  have HX2 := Lib.hid ((HR10.out.below hb911).more hb911.size)
                  have HBF := Lib.hid (HB1.out.trans ((belC HB9.out hb911).mono HB1.out.size))
                  clear hb911 hb11 HR9 HSB9 HR11 HR10 HB10 HE10 HE9
                  go_upto_block 6 with fail
                  clear k1 k2
                  go_wp2_with fail
                  go_loopg [31] R.length (fun n' i wr => ∃ k : Nat, n' + k = R.length ∧ i = .int .i64 (k : Int) ∧ Hid (Below w11.heap.size w11 wr))
                  case atStart => exact ⟨0, rfl, rfl, Below.refl _ _⟩
                  case round =>
                    obtain ⟨k, hk, rfl, HBr⟩ := hrel
                    by_cases hlt : k < R.length
                    · obtain ⟨b1, o1, hA1, hl1, e0, e1⟩ := reads_pair (HX1.out.below HBr.out) hlt
                      obtain ⟨b2, o2, hA2, hl2, e2, e3⟩ := reads_pair (HX2.out.below HBr.out) hlt
                      subst hA1
                      subst hA2
                      have hr1 := Nat.lt_of_lt_of_le hl1 HBr.out.size
                      have hr2 := Nat.lt_of_lt_of_le hl2 HBr.out.size
                      generalize R[k] = p at *
                      obtain ⟨x, y⟩ := p
                      simp only at e0 e1 e2 e3
                      go_upto_region 51 with fail
                      refine quiet_in (fun w' => Below wr.heap.size wr w') (by kernel_rfl) (by kernel_rfl) ?_ fun hne => ?_
                      · exact (Below.refl _ _).drew
                      have z0 : ∀ z : WIn (fun w' => Below wr.heap.size wr w'), z.w.cell? ⟨b1, o1 + k * 2, none⟩ = some (.int .i64 x) := fun z => cell_behindC z.h e0
                      have z1 : ∀ z : WIn (fun w' => Below wr.heap.size wr w'), z.w.cell? ⟨b1, o1 + k * 2 + 1, none⟩ = some (.int .i64 y) := fun z => cell_behindC z.h e1
                      have z2 : ∀ z : WIn (fun w' => Below wr.heap.size wr w'), z.w.cell? ⟨b2, o2 + k * 2, none⟩ = some (.int .i64 x) := fun z => cell_behindC z.h e2
                      have z3 : ∀ z : WIn (fun w' => Below wr.heap.size wr w'), z.w.cell? ⟨b2, o2 + k * 2 + 1, none⟩ = some (.int .i64 y) := fun z => cell_behindC z.h e3
                      have heq : ∀ z : WIn (fun w' => Below wr.heap.size wr w'), (Op.equalIn 10000 69 (.agg #[.int .i64 x, .int .i64 y]) (.agg #[.int .i64 x, .int .i64 y])).run Tryd.prog z.w = .ok true z.w := fun z => by rw [eq_pair]; simp
                      repeat (first | go_big_quiet_skip | (go_big_quiet_want; go_big_quiet_op; go_big_quiet_on))
                      refine wpQuiet_nil ?_
                      intro w12 hw12
                      have hb12 : Below wr.heap.size wr w12 := by
                        obtain ⟨z, hz⟩ := hw12
                        rw [hz]
                        exact z.h
                      have HB12 := Lib.hid (belC HBr.out hb12)
                      clear hne hw12 z0 z1 z2 z3 heq hb12
                      go_wp2_with fail
                      go_roundg (gk - 1)
                      case measure => omega
                      case rel => exact ⟨k + 1, by omega, by go_num, HB12.out⟩
                    · go_wp2
                      go_ret
                      exact ⟨rfl, HBF.out.trans (HBr.out.mono HBF.out.size)⟩
end Go.Proofs.YtkbbkamnmdeagaaDoor
