/-
  frame.ReadSets: its contract. Condition: the bound on the bytes.
-/
import Derived.Test.YtkbbkamnmdeagaaDoorRsA
import Derived.Test.YtkbbkamnmdeagaaDoorFcD
import Derived.Test.YtkbbkamnmdeagaaDoorMem2
namespace Go.Proofs.YtkbbkamnmdeagaaDoor
open Go.RowKit Go.Shelf
attribute [local go_sem] Oper.semAt_some

theorem results_cell2 {P : Program} {fn : Func} {p q : Tmp} {ty tz : TypeId} (h : fn.results = #[.cell p ty, .cell q tz]) (tmps : Array Value) (w : World) (g1 g2 : Nat) (v1 v2 : Value)
    (hp : tmps.getD p undef = .pointer (some ⟨g1, 0, none⟩)) (hq : tmps.getD q undef = .pointer (some ⟨g2, 0, none⟩)) (h1 : w.cell? ⟨g1, 0, none⟩ = some v1) (h2 : w.cell? ⟨g2, 0, none⟩ = some v2)
    (k1 : (isAgg ty).run P w = .ok false w) (k2 : (isAgg tz).run P w = .ok false w) :
    (results fn tmps).run P w = .ok (.tuple #[v1, v2]) w := by
  have hp' : tmps[p]?.getD undef = .pointer (some ⟨g1, 0, none⟩) := by simpa using hp
  have hq' : tmps[q]?.getD undef = .pointer (some ⟨g2, 0, none⟩) := by simpa using hq
  simp [results, h, hp', hq', asAddr, loadVar, k1, k2, h1, h2, go_sem]
theorem agg_sets (w : World) : (isAgg 65).run Tryd.prog w = .ok false w := by simp [isAgg, run_underlying Tryd.underlying65, go_sem]
theorem agg_error (w : World) : (isAgg 26).run Tryd.prog w = .ok false w := by simp [isAgg, run_underlying Tryd.underlying26, go_sem]

set_option maxRecDepth 100000 in
set_option maxHeartbeats 4000000 in
theorem rsets_shape (body : List UInt8) (A : Option Addr) (c : Nat) (hm : body.length ≤ 140737488355328) (w : World) (h6 : body.length % 6 ≠ 0) :
    Calls Tryd.prog 43 #[.slice A body.length c] w fun e w' => ∃ A' c', e = .returned (.tuple #[.slice A' (rsL body).length c', errV (rsE body)]) ∧ Below w.heap.size w w' ∧ Reads w' w'.heap.size 2 A' (rsL body).length (pvs (rsL body)) := by
  rw [rsE_shape h6, rsL_no (by rw [rsE_shape h6]; decide), errV_pos (by decide)]
  obtain ⟨n, hn⟩ : ∃ n, body.length = n := ⟨_, rfl⟩
  rw [hn] at h6 hm ⊢
  have hi : ¬ ((n : Nat) : Int) % 6 = 0 := by omega
  have hi2 : (((n : Nat) : Int) % 6 == 0) = false := by simpa using hi
  have hi3 : (((n : Nat) : Int) % 6 != 0) = true := by simpa using hi
  clear hn
  go_enter Tryd.func43, Tryd.ntmps43
  go_wp2
  have hb0 := Blk.new w 65 #[.slice none 0 0]
  have hb1 := Blk.new (w.alloc (.cells #[.slice none 0 0] 65)) 26 #[.iface 113 (.int .i64 3)]
  rw [World.size_alloc] at hb1
  refine bodyPost_ret (results_cell2 rfl _ _ w.heap.size (w.heap.size + 1) (.slice none 0 0) (.iface 113 (.int .i64 3)) rfl rfl ((hb0.alloc _).cell 0) (hb1.cell 0) (agg_sets _) (agg_error _)) rfl ?_
  exact ⟨none, 0, rfl, ((Below.refl _ _).alloc (Nat.le_refl _) _).alloc (by simp) _, Reads.none_⟩

theorem wrap_id64 {z : Int} (h0 : 0 ≤ z) (h : z ≤ 9000000000000000000) : IntKind.i64.wrap z = z := by
  simp [IntKind.wrap, IntKind.bits, IntKind.signed]
  omega
theorem p6_le {n k : Nat} (h : n ≤ 1000000000000) (hk : k < pieces6 n) : k + 1 ≤ 1000000000000 := by unfold pieces6 at hk; omega
/-- Where the loop may be left. -/
def RsOut (w : World) (body : List UInt8) (n : Nat) (W : World) (pre : List (Fin (pieces6 n))) : Prop :=
  ∃ pre' x, pre = pre' ++ [x] ∧ tooW body x.1 ∧ Boxed W w.heap.size 65 (.slice none 0 0) ∧ Boxed W (w.heap.size + 1) 26 (.iface 113 (.int .i64 10)) ∧ Below w.heap.size w W

set_option maxRecDepth 100000 in
set_option maxHeartbeats 4000000 in
theorem rsets_loop (body : List UInt8) (A : Option Addr) (c : Nat) (hcap : body.length ≤ c) (hm : body.length ≤ 1000000000000) (w : World) (hr : Reads w w.heap.size 1 A body.length (bs body)) (h6 : body.length % 6 = 0) :
    Calls Tryd.prog 43 #[.slice A body.length c] w fun e w' => ∃ A' c', e = .returned (.tuple #[.slice A' (rsL body).length c', errV (rsE body)]) ∧ Below w.heap.size w w' ∧ Reads w' w'.heap.size 2 A' (rsL body).length (pvs (rsL body)) := by
  obtain ⟨n, hn0⟩ : ∃ n, body.length = n := ⟨_, rfl⟩
  have HR := Lib.hid hr
  have H6 := Lib.hid h6
  have HN0 := Lib.hid hn0
  rw [hn0] at hcap hm h6 ⊢
  have hi : ((n : Nat) : Int) % 6 = 0 := by omega
  have hi2 : (((n : Nat) : Int) % 6 == 0) = true := by simpa using hi
  have hi3 : (((n : Nat) : Int) % 6 != 0) = false := by simpa using hi
  clear hr h6 hn0
  refine (callsIn_wide (n := 7)).1 ?_
  refine callsIn_of_wp_marks Tryd.func43 rfl trivial ?_ rfl
  simp only [Tryd.ntmps43, List.size_toArray, List.length_cons, List.length_nil, Nat.reduceAdd, Nat.reduceSub, Array.replicate_succ, Array.replicate_zero, List.push_toArray, List.append_toArray, List.nil_append, List.cons_append]
  gi_wp2_with (first
    | (refine ⟨trivial, ?_⟩; gi_at_call 81; refine (chunk6_new Fence.wide _ trivial rfl _ _ _ _).mono ?_; rintro e w' ⟨rfl, rfl⟩)
    | (refine ⟨trivial, ?_⟩))
  clear hi hi2 hi3
  obtain ⟨W0, hW0⟩ : ∃ W0, ((((w.alloc (.cells #[.slice none 0 0] 65)).alloc (.cells #[.nilIface] 26)).alloc (.cells #[.slice none 0 0] 65)).alloc (.cells #[.slice A n c] 22)).alloc (.cells #[.int .i64 6] 3) = W0 := ⟨_, rfl⟩
  have hsz : W0.heap.size = w.heap.size + 5 := by rw [← hW0]; simp
  have hB0 : Below w.heap.size w W0 := by
    rw [← hW0]
    exact (((((Below.refl _ w).alloc (Nat.le_refl _) _).alloc (by simp) _).alloc (by simp; omega) _).alloc (by simp; omega) _).alloc (by simp; omega) _
  obtain ⟨Q, hQ⟩ : ∃ Q, w.heap.size + 1 + 1 = Q := ⟨_, rfl⟩
  have hat : RsAt (m := pieces6 n) w.heap.size Q body A n c (.slice none 0 0) [] W0 := by
    have b0 := Boxed.new w 65 (.slice none 0 0)
    have b1 := Boxed.new (w.alloc (.cells #[.slice none 0 0] 65)) 26 .nilIface
    have b2 := Boxed.new ((w.alloc (.cells #[.slice none 0 0] 65)).alloc (.cells #[.nilIface] 26)) 65 (.slice none 0 0)
    have b3 := Boxed.new (((w.alloc (.cells #[.slice none 0 0] 65)).alloc (.cells #[.nilIface] 26)).alloc (.cells #[.slice none 0 0] 65)) 22 (.slice A n c)
    have b4 := Boxed.new ((((w.alloc (.cells #[.slice none 0 0] 65)).alloc (.cells #[.nilIface] 26)).alloc (.cells #[.slice none 0 0] 65)).alloc (.cells #[.slice A n c] 22)) 3 (.int .i64 6)
    simp only [World.size_alloc] at b1 b2 b3 b4
    rw [← hW0, ← hQ]
    exact ⟨(b2.alloc _).alloc _, World.ownsRow_nil _ _ _ _, (((b0.alloc _).alloc _).alloc _).alloc _, ((b1.alloc _).alloc _).alloc _, b3.alloc _, b4⟩
  have hA : 0 < n → ∃ b off, A = some ⟨b, off, none⟩ := fun h0 => by
    obtain ⟨b, off, e, _⟩ := HR.out.form (by have := HN0.out; omega)
    exact ⟨b, off, e⟩
  rw [hW0, hQ]
  have HQ2 := Lib.hid (show Q = w.heap.size + 2 from hQ.symm)
  have hQs : Q + 2 < W0.heap.size := by omega
  clear hQ hW0
  refine wpIn_rangeFunc_ownG rfl (by decide) (gf := 98) (lb := #[.pointer (some ⟨Q + 1, 0, none⟩), .pointer (some ⟨Q + 1 + 1, 0, none⟩)]) rfl trivial (enters_of Tryd.func98 (by kernel_rfl) rfl)
    (chunk6_stops Fence.wide _ trivial rfl (by decide) (Q + 1) (Q + 1 + 1) A n c hcap (by omega) hA W0 (by omega) (by omega) hat.b.cell hat.n.cell) (fun h k => KeepC.trans h k) ?hKb (Below.refl _ _) (fun _ => rfl)
    (fun pre W => (∃ v, RsAt w.heap.size Q body A n c v pre W) ∧ (∀ x ∈ pre, ¬ tooW body x.1) ∧ Below w.heap.size w W)
    (fun cd pre W => cd = Code.ret ∧ RsOut w body n W pre) ?hI ?hIx ⟨⟨_, hat⟩, by simp, hB0⟩
    (fun x => { tmps := #[.slice A n c, undef, .pointer (some ⟨w.heap.size, 0, none⟩), .pointer (some ⟨w.heap.size + 1, 0, none⟩), .pointer (some ⟨Q, 0, none⟩), pieceW6 A n x.1, undef, .slice A n c, .int .i64 (n : Int), .int .i64 0, .bool false, undef, .slice A n c, .func (.func 98) #[] #[.pointer (some ⟨Q + 1, 0, none⟩), .pointer (some ⟨Q + 1 + 1, 0, none⟩)], pieceW6 A n x.1, undef, undef, undef, undef, undef, undef, undef, undef, undef, undef, undef, undef, undef, undef, undef, undef, undef, undef, undef, undef, undef, undef], defers := [] }) ?assign ?body ?done ?stop
  case hKb => as_aux_lemma =>
    intro W l o o' hl ho hc hw
    have key : ∀ b, b < W0.heap.size → (W.putObj l o').cell? ⟨b, 0, none⟩ = W.cell? ⟨b, 0, none⟩ := fun b hb =>
      ((Below.refl W0.heap.size W).grown (grownBy_putObj' W l o') (by have := (Array.getElem?_eq_some_iff.1 ho).1; omega) (fun k e => by cases e; omega)).cell hb
    exact ⟨key _ (by omega), key _ (by omega)⟩
  case hI => as_aux_lemma =>
    refine OwnFrom.and (Own.from (fun s X Y row hs hg hr => ?_) _) (OwnFrom.and (Own.from (fun s X Y row hs hg hr => hs) _) (ownFrom_below (Nat.le_refl _) (by omega)))
    obtain ⟨v, h⟩ := hs
    exact ⟨v, h.kept hg hr⟩
  case hIx => as_aux_lemma =>
    intro cd s X Y row hs hg hr
    obtain ⟨rfl, pre', x, h1, h2, h3, h4, h5⟩ := hs
    exact ⟨rfl, pre', x, h1, h2, box_kept_nc h3 hg (fun r e => (hr r e).2), box_kept_nc h4 hg (fun r e => (hr r e).2), h5.grown hg (by have := h5.size; omega) (fun k e => by have := (hr k e).1; omega)⟩
  case assign => as_aux_lemma =>
    intro l x W K hK
    gi_wp2
    exact hK
  case body =>
    rintro l pre x W ⟨⟨v, hS⟩, hok, hBw⟩ hlen
    obtain ⟨j, hjn⟩ := x
    have hmx : Tryd.prog.follows .mixedOrders = true := by kernel_rfl
    have hrW : Reads W w.heap.size 1 A body.length (bs body) := HR.out.below hBw
    obtain ⟨bb, off, rfl, hbb, hpw, hpl, hpr⟩ := pc6_reads hrW H6.out j (by rw [HN0.out]; exact hjn)
    rw [HN0.out] at hpw
    obtain ⟨x0, y0, hx0, hy0, hid, e0, e1, _, q, hq, hqx, hqr⟩ := pc6_parts hpl hpr
    have hjoin := pair_join x0 y0 hx0 hy0
    obtain ⟨id, hidv⟩ : ∃ id, x0 * 256 + y0 = id := ⟨_, rfl⟩
    rw [hidv] at hjoin hid
    clear hidv
    obtain ⟨P, hP⟩ : ∃ P, off + 6 * j = P := ⟨_, rfl⟩
    rw [hP] at hpw e0 e1 hqr
    have hSz := hBw.size
    have HS := Lib.hid hS
    have HBW := Lib.hid hBw
    have HWD := Lib.hid (fword_is q hq (some ⟨bb, P + 2, none⟩) 4 w.heap.size W hqr)
    have HQX := Lib.hid hqx
    have HBB := Lib.hid hbb
    have HE := Lib.hid (And.intro e0 e1)
    have HID := Lib.hid hid
    have HOK := Lib.hid hok
    have HPL := Lib.hid (p6_le hm hlen)
    obtain ⟨X, hX⟩ : ∃ X, beNat q = X := ⟨_, rfl⟩
    rw [hX] at HWD HQX
    have HSX := Lib.hid (show setX (pc6 body j) = X from HQX.out.symm)
    simp only
    rw [hpw]
    clear hpw hrW hpl hpr hid hq hqx hqr hok hP hS hX hbb
    gi_wp2
    refine ⟨trivial, (CallsIn.inRound _ (callsIn_wide.2 HWD.out)).mono ?_⟩
    rintro e w1 ⟨rfl, hb1⟩
    have hS1 := HS.out.below hb1
    have hk1 : KeepsOthers W w1 := ⟨hb1.size, fun k o hk _ => (hb1.block k (Array.getElem?_eq_some_iff.1 hk).1).trans hk⟩
    have c0 : w1.cell? ⟨bb, P, none⟩ = some (.int .u8 (x0 : Int)) := (hb1.cell (p := ⟨bb, P, none⟩) (World.block_lt_of_cell? _ _ e0)).trans e0
    have c1 : w1.cell? ⟨bb, P + 1, none⟩ = some (.int .u8 (y0 : Int)) := (hb1.cell (p := ⟨bb, P + 1, none⟩) (World.block_lt_of_cell? _ _ e1)).trans e1
    have hlw : bb < w.heap.size := HBB.out
    have HB1 := Lib.hid hb1
    have HS1 := Lib.hid hS1
    have HK1 := Lib.hid hk1
    have HKC := Lib.hid (show KeepC (Q + 1) (Q + 1 + 1) W w1 from ⟨hS1.b.cell.trans HS.out.b.cell.symm, hS1.n.cell.trans HS.out.n.cell.symm⟩)
    have HBw1 := Lib.hid (show Below w.heap.size w w1 from HBW.out.trans (hb1.mono HBW.out.size))
    clear e0 e1 hb1 hS1 hk1 hSz
    by_cases hov : 2147483647 < X
    · have HTW := Lib.hid (show tooW body j by unfold tooW; rw [HSX.out]; exact hov)
      have j1 : (2147483647 : Int) < ((X : Nat) : Int) := by omega
      have j2 := decide_eq_true j1
      have r0 := HS1.out.r0.cell
      have r1 := HS1.out.r1.cell
      have f0 : w1.frozen? ⟨w.heap.size, 0, none⟩ = false := HS1.out.r0.frozen
      have f1 : w1.frozen? ⟨w.heap.size + 1, 0, none⟩ = false := HS1.out.r1.frozen
      have b0 := HS1.out.r0.set (.slice none 0 0)
      have b1 := HS1.out.r1.other (B' := w.heap.size) (by omega) (.slice none 0 0)
      have r1' := b1.cell
      have f1' : (w1.setCell ⟨w.heap.size, 0, none⟩ (.slice none 0 0)).frozen? ⟨w.heap.size + 1, 0, none⟩ = false := b1.frozen
      have HF0 := Lib.hid (b0.other (B' := w.heap.size + 1) (by omega) (.iface 113 (.int .i64 10)))
      have HF1 := Lib.hid (b1.set (.iface 113 (.int .i64 10)))
      clear b0 b1 hov
      gi_wp2
      refine ⟨((HK1.out.trans (KeepsOthers.setCell _ _ _)).trans (KeepsOthers.setCell _ _ _)).from _, rfl, pre, ⟨j, hjn⟩, rfl, HTW.out, HF0.out, HF1.out, ?_⟩
      exact ((HBw1.out).setCell (p := ⟨w.heap.size, 0, none⟩) (Nat.le_refl _) _).setCell (p := ⟨w.heap.size + 1, 0, none⟩) (Nat.le_succ _) _
    · have HTW := Lib.hid (show ¬ tooW body j by unfold tooW; rw [HSX.out]; exact hov)
      have j1 : ¬ (2147483647 : Int) < ((X : Nat) : Int) := by omega
      have j2 := decide_eq_false j1
      obtain ⟨g', cap', w2, hrun, hc2, hf2, hbw2, hend, hkc, hko, hbe⟩ := rs_step HS.out HQ2.out HBW.out.size HPL.out (HB1.out.drew) ⟨j, hjn⟩
      rw [show setId (pc6 body j) = id from HID.out, HSX.out] at hrun
      have t0 := HS1.out.box.cell
      have s0 : w2.cell? ⟨bb, P, none⟩ = some (.int .u8 (x0 : Int)) := (hbw2.cell (p := ⟨bb, P, none⟩) hlw).trans (HE.out.1)
      have s1 : w2.cell? ⟨bb, P + 1, none⟩ = some (.int .u8 (y0 : Int)) := (hbw2.cell (p := ⟨bb, P + 1, none⟩) hlw).trans (HE.out.2)
      have z0 : (w2.setCell ⟨Q, 0, none⟩ (.slice (some ⟨g', 0, none⟩) (pre.length + 1) cap')).cell? ⟨bb, P, none⟩ = some (.int .u8 (x0 : Int)) := (hbe.cell (p := ⟨bb, P, none⟩) hlw).trans (HE.out.1)
      have z1 : (w2.setCell ⟨Q, 0, none⟩ (.slice (some ⟨g', 0, none⟩) (pre.length + 1) cap')).cell? ⟨bb, P + 1, none⟩ = some (.int .u8 (y0 : Int)) := (hbe.cell (p := ⟨bb, P + 1, none⟩) hlw).trans (HE.out.2)
      have HEND := Lib.hid (And.intro hend (And.intro hkc (And.intro hko hbe)))
      have HRUN := Lib.hid (show (Builtin.append_ #[65, 65] 65 #[v, .slice (some ⟨w1.heap.size, 0, none⟩) 1 1]).run Tryd.prog ((w1.alloc (.cells #[.int .i64 ((id : Nat) : Int), .int .i64 ((X : Nat) : Int)] 69)).drew) = .ok (.slice (some ⟨g', 0, none⟩) (pre.length + 1) cap') w2 from hrun)
      have HZ := Lib.hid (And.intro z0 z1)
      have HS2 := Lib.hid (And.intro s0 s1)
      clear hov hend hkc hko hbe hbw2 hrun z0 z1 s0 s1
      gi_wp2
      have hw0 := wrap_id64 (z := (x0 : Int)) (by omega) (by omega)
      have hw1 := wrap_id64 (z := (x0 : Int) * 256) (by omega) (by omega)
      have hw2 := wrap_id64 (z := (y0 : Int)) (by omega) (by omega)
      refine region_in_round (S := fun W' => W'.cell? ⟨bb, P, none⟩ = some (.int .u8 (x0 : Int)) ∧ W'.cell? ⟨bb, P + 1, none⟩ = some (.int .u8 (y0 : Int))) hmx (by kernel_rfl) ⟨c0, c1⟩ (fun hHeld => ?_)
      refine wpAnyH_take (i := 1) (v := .slice (some ⟨bb, P, none⟩) 6 6) rfl (by kernel_rfl) (by kernel_rfl) (by kernel_rfl) (fun _ _ _ h => h) (Or.inl ⟨by rfl, fun w' hSw => ?_⟩) hHeld ?_
      · try dsimp only at hSw
        first | (go_simp; done) | (go_simp; rfl)
      try simp only [Act.put, List.setIfInBounds_toArray, List.set_cons_zero, List.set_cons_succ]
      refine wpAnyH_take (i := 2) (v := .pointer (some ⟨bb, P, none⟩)) rfl (by kernel_rfl) (by kernel_rfl) (by kernel_rfl) (fun _ _ _ h => h) (Or.inl ⟨by rfl, fun w' hSw => ?_⟩) hHeld ?_
      · try dsimp only at hSw
        first | (go_simp; done) | (go_simp; rfl)
      try simp only [Act.put, List.setIfInBounds_toArray, List.set_cons_zero, List.set_cons_succ]
      refine wpAnyH_take (i := 3) (v := .int .u8 (x0 : Int)) rfl (by kernel_rfl) (by kernel_rfl) (by kernel_rfl) (fun _ _ _ h => h) (Or.inl ⟨by rfl, fun w' hSw => ?_⟩) hHeld ?_
      · try dsimp only at hSw
        first | (go_simp; done) | (go_simp; rfl)
      try simp only [Act.put, List.setIfInBounds_toArray, List.set_cons_zero, List.set_cons_succ]
      refine wpAnyH_take (i := 4) (v := .int .i64 (x0 : Int)) rfl (by kernel_rfl) (by kernel_rfl) (by kernel_rfl) (fun _ _ _ h => h) (Or.inl ⟨by rfl, fun w' hSw => ?_⟩) hHeld ?_
      · try dsimp only at hSw
        first | (go_simp; done) | (go_simp; rfl)
      try simp only [Act.put, List.setIfInBounds_toArray, List.set_cons_zero, List.set_cons_succ]
      refine wpAnyH_take (i := 5) (v := .int .i64 ((x0 : Int) * 256)) rfl (by kernel_rfl) (by kernel_rfl) (by kernel_rfl) (fun _ _ _ h => h) (Or.inl ⟨by rfl, fun w' hSw => ?_⟩) hHeld ?_
      · try dsimp only at hSw
        first | (go_simp; done) | (go_simp; rfl)
      try simp only [Act.put, List.setIfInBounds_toArray, List.set_cons_zero, List.set_cons_succ]
      refine wpAnyH_take (i := 6) (v := .slice (some ⟨bb, P, none⟩) 6 6) rfl (by kernel_rfl) (by kernel_rfl) (by kernel_rfl) (fun _ _ _ h => h) (Or.inl ⟨by rfl, fun w' hSw => ?_⟩) hHeld ?_
      · try dsimp only at hSw
        first | (go_simp; done) | (go_simp; rfl)
      try simp only [Act.put, List.setIfInBounds_toArray, List.set_cons_zero, List.set_cons_succ]
      refine wpAnyH_take (i := 7) (v := .pointer (some ⟨bb, P + 1, none⟩)) rfl (by kernel_rfl) (by kernel_rfl) (by kernel_rfl) (fun _ _ _ h => h) (Or.inl ⟨by rfl, fun w' hSw => ?_⟩) hHeld ?_
      · try dsimp only at hSw
        first | (go_simp; done) | (go_simp; rfl)
      try simp only [Act.put, List.setIfInBounds_toArray, List.set_cons_zero, List.set_cons_succ]
      refine wpAnyH_take (i := 8) (v := .int .u8 (y0 : Int)) rfl (by kernel_rfl) (by kernel_rfl) (by kernel_rfl) (fun _ _ _ h => h) (Or.inl ⟨by rfl, fun w' hSw => ?_⟩) hHeld ?_
      · try dsimp only at hSw
        first | (go_simp; done) | (go_simp; rfl)
      try simp only [Act.put, List.setIfInBounds_toArray, List.set_cons_zero, List.set_cons_succ]
      refine wpAnyH_take (i := 9) (v := .int .i64 (y0 : Int)) rfl (by kernel_rfl) (by kernel_rfl) (by kernel_rfl) (fun _ _ _ h => h) (Or.inl ⟨by rfl, fun w' hSw => ?_⟩) hHeld ?_
      · try dsimp only at hSw
        first | (go_simp; done) | (go_simp; rfl)
      try simp only [Act.put, List.setIfInBounds_toArray, List.set_cons_zero, List.set_cons_succ]
      refine wpAnyH_take (i := 10) (v := .int .i64 ((id : Nat) : Int)) rfl (by kernel_rfl) (by kernel_rfl) (by kernel_rfl) (fun _ _ _ h => h) (Or.inl ⟨by rfl, fun w' hSw => ?_⟩) hHeld ?_
      · try dsimp only at hSw
        first | (go_simp; done) | (go_simp; rfl)
      try simp only [Act.put, List.setIfInBounds_toArray, List.set_cons_zero, List.set_cons_succ]
      refine wpAnyH_take (i := 11) (v := .int .i64 ((X : Nat) : Int)) rfl (by kernel_rfl) (by kernel_rfl) (by kernel_rfl) (fun _ _ _ h => h) (Or.inl ⟨by rfl, fun w' hSw => ?_⟩) hHeld ?_
      · try dsimp only at hSw
        first | (go_simp; done) | (go_simp; rfl)
      try simp only [Act.put, List.setIfInBounds_toArray, List.set_cons_zero, List.set_cons_succ]
      refine wpAnyH_take (i := 12) (v := .agg #[.int .i64 ((id : Nat) : Int), .int .i64 ((X : Nat) : Int)]) rfl (by kernel_rfl) (by kernel_rfl) (by kernel_rfl) (fun _ _ _ h => h) (Or.inl ⟨by rfl, fun w' hSw => ?_⟩) hHeld ?_
      · try dsimp only at hSw
        first | (go_simp; done) | (go_simp; rfl)
      try simp only [Act.put, List.setIfInBounds_toArray, List.set_cons_zero, List.set_cons_succ]
      clear hw0 hw1 hw2 hjoin
      have a0 : (w1.alloc (.cells #[.int .i64 ((id : Nat) : Int), .int .i64 ((X : Nat) : Int)] 69)).cell? ⟨bb, P, none⟩ = some (.int .u8 (x0 : Int)) := (World.cell?_alloc_lt _ _ _ (World.block_lt_of_cell? _ _ c0)).trans c0
      have a1 : (w1.alloc (.cells #[.int .i64 ((id : Nat) : Int), .int .i64 ((X : Nat) : Int)] 69)).cell? ⟨bb, P + 1, none⟩ = some (.int .u8 (y0 : Int)) := (World.cell?_alloc_lt _ _ _ (World.block_lt_of_cell? _ _ c1)).trans c1
      have at0 : (w1.alloc (.cells #[.int .i64 ((id : Nat) : Int), .int .i64 ((X : Nat) : Int)] 69)).cell? ⟨Q, 0, none⟩ = some v := (World.cell?_alloc_lt _ _ _ (World.block_lt_of_cell? _ _ t0)).trans t0
      refine wpAnyH_ready (rs := [0, 13]) (by kernel_rfl) (by simp) ?_
      refine AllReadyH.cons rfl (fun K hK => ?_) (AllReadyH.cons rfl (fun K hK => ?_) AllReadyH.nil)
      · go_simp
        refine hK.out _ _ ⟨c0, c1⟩ (fun hHeld => ?_)
        clear hK K
        try simp only [Act.put, List.setIfInBounds_toArray, List.set_cons_zero, List.set_cons_succ]
        refine wpAnyH_ready (rs := [13]) (by kernel_rfl) (by simp) ?_
        refine AllReadyH.cons rfl (fun K hK => ?_) AllReadyH.nil
        go_simp
        refine hK.out _ _ ⟨a0, a1⟩ (fun hHeld => ?_)
        clear hK K
        try simp only [Act.put, List.setIfInBounds_toArray, List.set_cons_zero, List.set_cons_succ]
        refine wpAnyH_ready (rs := [14]) (by kernel_rfl) (by simp) ?_
        refine AllReadyH.cons rfl (fun K hK => ?_) AllReadyH.nil
        (rw [if_pos (by rfl)]; refine upon_append rfl rfl rfl HRUN.out ?_; simp only [Act.put, List.setIfInBounds_toArray, List.set_cons_zero, List.set_cons_succ])
        refine hK.out _ _ HS2.out (fun hHeld => ?_)
        clear hK K
        try simp only [Act.put, List.setIfInBounds_toArray, List.set_cons_zero, List.set_cons_succ]
        refine wpAnyH_ready (rs := [15]) (by kernel_rfl) (by simp) ?_
        refine AllReadyH.cons rfl (fun K hK => ?_) AllReadyH.nil
        go_simp
        refine hK.out _ _ HZ.out (fun hHeld => ?_)
        clear hK K
        try simp only [Act.put, List.setIfInBounds_toArray, List.set_cons_zero, List.set_cons_succ]
        refine wpAnyH_done (by kernel_rfl) ?_ _
        gi_wp2
        refine ⟨HEND.out.2.2.1.from _, HEND.out.2.1, ⟨_, HEND.out.1⟩, fun z hz => ?_, HBW.out.trans HEND.out.2.2.2⟩
        rcases List.mem_append.1 hz with h | h
        · exact HOK.out z h
        · rw [List.mem_singleton.1 h]
          exact HTW.out
      · go_simp
        refine hK.out _ _ ⟨a0, a1⟩ (fun hHeld => ?_)
        clear hK K
        try simp only [Act.put, List.setIfInBounds_toArray, List.set_cons_zero, List.set_cons_succ]
        refine wpAnyH_ready (rs := [0]) (by kernel_rfl) (by simp) ?_
        refine AllReadyH.cons rfl (fun K hK => ?_) AllReadyH.nil
        go_simp
        refine hK.out _ _ ⟨a0, a1⟩ (fun hHeld => ?_)
        clear hK K
        try simp only [Act.put, List.setIfInBounds_toArray, List.set_cons_zero, List.set_cons_succ]
        refine wpAnyH_ready (rs := [14]) (by kernel_rfl) (by simp) ?_
        refine AllReadyH.cons rfl (fun K hK => ?_) AllReadyH.nil
        (rw [if_pos (by rfl)]; refine upon_append rfl rfl rfl HRUN.out ?_; simp only [Act.put, List.setIfInBounds_toArray, List.set_cons_zero, List.set_cons_succ])
        refine hK.out _ _ HS2.out (fun hHeld => ?_)
        clear hK K
        try simp only [Act.put, List.setIfInBounds_toArray, List.set_cons_zero, List.set_cons_succ]
        refine wpAnyH_ready (rs := [15]) (by kernel_rfl) (by simp) ?_
        refine AllReadyH.cons rfl (fun K hK => ?_) AllReadyH.nil
        go_simp
        refine hK.out _ _ HZ.out (fun hHeld => ?_)
        clear hK K
        try simp only [Act.put, List.setIfInBounds_toArray, List.set_cons_zero, List.set_cons_succ]
        refine wpAnyH_done (by kernel_rfl) ?_ _
        gi_wp2
        refine ⟨HEND.out.2.2.1.from _, HEND.out.2.1, ⟨_, HEND.out.1⟩, fun z hz => ?_, HBW.out.trans HEND.out.2.2.2⟩
        rcases List.mem_append.1 hz with h | h
        · exact HOK.out z h
        · rw [List.mem_singleton.1 h]
          exact HTW.out
  case done =>
    rintro D ys W hD hys ⟨⟨v, hS⟩, hok, hBw⟩ hK
    have hyl : ys.length = pieces6 n := by
      have := congrArg List.length hys
      simpa using this
    have hp6 : pieces6 n = body.length / 6 := by
      have h1 := HN0.out
      have h2 := H6.out
      unfold pieces6
      omega
    have hE : rsE body = 0 := rsE_ok H6.out fun j hj => by
      have hj2 : j ∈ ys.map Fin.val := by
        rw [hys]
        exact List.mem_range.2 (by omega)
      obtain ⟨y, hy, rfl⟩ := List.mem_map.1 hj2
      exact hok y hy
    have hL : rsL body = prs body ys := by rw [rsL_ok hE, prs_all body ys hys, hp6]
    obtain ⟨A', c', rfl, -⟩ := own_slice0 hS.row
    obtain ⟨m, hm2⟩ : ∃ m, ys.length = m := ⟨_, rfl⟩
    obtain ⟨L, hLL⟩ : ∃ L, prs body ys = L := ⟨_, rfl⟩
    have hLm : L.length = m := by rw [← hLL, prs_length, hm2]
    have hSw := hBw.size
    have t0 := hS.box.cell
    have r0 := hS.r0.cell
    have f0 : W.frozen? ⟨w.heap.size, 0, none⟩ = false := hS.r0.frozen
    have b1 := hS.r1.other (B' := w.heap.size) (by omega) (.slice A' ys.length c')
    have r1' := b1.cell
    have f1' : (W.setCell ⟨w.heap.size, 0, none⟩ (.slice A' ys.length c')).frozen? ⟨w.heap.size + 1, 0, none⟩ = false := b1.frozen
    have q0 := (hS.r0.set (.slice A' ys.length c')).other (B' := w.heap.size + 1) (by omega) .nilIface
    have q1 := b1.set .nilIface
    have o1 := hS.row.kept (grownBy_setCell' W w.heap.size (.slice A' ys.length c')) (.inr (fun e => own_blk_ne hS.row (show Blk W w.heap.size 65 #[_] from hS.r0) (by decide) e))
    have o2 := o1.kept (grownBy_setCell' _ (w.heap.size + 1) .nilIface) (.inr (fun e => own_blk_ne o1 (show Blk _ (w.heap.size + 1) 26 #[_] from b1) (by decide) e))
    have hx2 : ((W.setCell ⟨w.heap.size, 0, none⟩ (.slice A' ys.length c')).setCell ⟨w.heap.size + 1, 0, none⟩ .nilIface).heap[D]? = some (.deferred (some [])) :=
      ((Below.heap_setCell _ ⟨w.heap.size + 1, 0, none⟩ _ D (by show D ≠ w.heap.size + 1; omega)).trans (Below.heap_setCell W ⟨w.heap.size, 0, none⟩ _ D (by show D ≠ w.heap.size; omega))).trans hK
    have o3 := own_kept_nc o2 (grownBy_putObj' _ D (.deferred none)) (fun r e => by cases e; exact ⟨_, hx2, rfl⟩)
    have hbe := ((hBw.setCell (p := ⟨w.heap.size, 0, none⟩) (Nat.le_refl _) (.slice A' ys.length c')).setCell (p := ⟨w.heap.size + 1, 0, none⟩) (Nat.le_succ _) .nilIface)
    have hbe2 := hbe.trans ((Below.refl w.heap.size _).grown (grownBy_putObj' _ D (.deferred none)) hbe.size (fun k e => by cases e; omega))
    rw [hLL] at o3 hL
    rw [hm2] at *
    have HO3 := Lib.hid o3
    have HBE := Lib.hid hbe2
    have HX := Lib.hid hx2
    have HEL := Lib.hid (And.intro hE (And.intro hL hLm))
    have HQ0 := Lib.hid q0
    have HQ1 := Lib.hid q1
    clear hK hys hok hBw hyl hp6 hE hL hm2 hLL hLm b1 q0 q1 o1 o2 o3 hx2 hbe hbe2 hS hsz hat hB0 hA hD
    gi_wp2
    refine ⟨by simp, .inl ⟨_, _, rfl, run_takeDeferred HX.out, ?_⟩⟩
    refine ⟨_, results_cell2 rfl _ _ w.heap.size (w.heap.size + 1) (.slice A' m c') .nilIface rfl rfl ((cell_putObj HX.out _).trans HQ0.out.cell) ((cell_putObj HX.out _).trans HQ1.out.cell) (agg_sets _) (agg_error _), A', c', ?_, HBE.out, ?_⟩
    · rw [HEL.out.1, HEL.out.2.1, HEL.out.2.2, errV_zero]
    · rw [HEL.out.2.1, HEL.out.2.2]
      exact Reads.of_own HO3.out
  case stop =>
    rintro D cd pre W hD hSp ⟨rfl, pre', x, hpre, htw, h0, h1, hbW⟩ hK
    have hE : rsE body = 10 := rsE_over H6.out (by have := x.2; have := HN0.out; have := H6.out; unfold pieces6 at *; omega) htw
    have HX := Lib.hid hK
    have HB0 := Lib.hid h0
    have HB1 := Lib.hid h1
    have HBW := Lib.hid hbW
    have HEE := Lib.hid hE
    have HDD := Lib.hid (show w.heap.size ≤ D by have := hB0.size; omega)
    clear hSp hpre htw h0 h1 hbW hK hE hsz hat hB0 hA hD
    gi_wp2
    refine ⟨by simp, .inl ⟨_, _, rfl, run_takeDeferred HX.out, ?_⟩⟩
    refine ⟨_, results_cell2 rfl _ _ w.heap.size (w.heap.size + 1) (.slice none 0 0) (.iface 113 (.int .i64 10)) rfl rfl ((cell_putObj HX.out _).trans HB0.out.cell) ((cell_putObj HX.out _).trans HB1.out.cell) (agg_sets _) (agg_error _), none, 0, ?_, ?_, ?_⟩
    · rw [HEE.out, rsL_no (by rw [HEE.out]; decide), errV_pos (show (10 : Nat) ≠ 0 by decide)]
      rfl
    · exact HBW.out.trans ((Below.refl w.heap.size _).grown (grownBy_putObj' _ D _) HBW.out.size (fun k e => by cases e; exact HDD.out))
    · rw [rsL_no (by rw [HEE.out]; decide)]
      exact Reads.none_

theorem rsets_any (body : List UInt8) (A : Option Addr) (c : Nat) (hcap : body.length ≤ c) (hm : body.length ≤ 1000000000000) (w : World) (hr : Reads w w.heap.size 1 A body.length (bs body)) :
    Calls Tryd.prog 43 #[.slice A body.length c] w fun e w' => ∃ A' c', e = .returned (.tuple #[.slice A' (rsL body).length c', errV (rsE body)]) ∧ Below w.heap.size w w' ∧ Reads w' w'.heap.size 2 A' (rsL body).length (pvs (rsL body)) := by
  by_cases h6 : body.length % 6 = 0
  · exact rsets_loop body A c hcap hm w hr h6
  · exact rsets_shape body A c (by omega) w h6
end Go.Proofs.YtkbbkamnmdeagaaDoor
