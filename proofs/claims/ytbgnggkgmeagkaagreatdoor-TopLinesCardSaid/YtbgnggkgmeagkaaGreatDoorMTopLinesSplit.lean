/-
  frame.Split: its contract. Condition: the bound on the block's length.
-/
import Derived.Test.YtbgnggkgmeagkaaGreatDoorMTopLines16
import Derived.Sort.CutIn
set_option linter.unusedSimpArgs false
set_option linter.unusedVariables false
namespace Go.Proofs.YtbgnggkgmeagkaaGreatDoor
open Go.RowKit Go.Shelf
attribute [local go_sem] Oper.semAt_some

set_option maxHeartbeats 1000000 in
theorem chunk_in (F : Fence) (n : Nat) (h81 : F.fn 105) (hro : F.round = none) (A : Option Addr) (len cap : Nat) (w : World) :
    CallsIn F n Tryz.prog 105 #[.slice A len cap, .int .i64 1024] w fun e w' => e = .returned (.func (.func 159) #[] #[.pointer (some ⟨w.heap.size, 0, none⟩), .pointer (some ⟨w.heap.size + 1, 0, none⟩)]) ∧ w' = (w.alloc (.cells #[.slice A len cap] 23)).alloc (.cells #[.int .i64 1024] 3) := by
  refine callsIn_of_wp Tryz.func105 rfl h81 ?_ hro
  simp only [Tryz.ntmps105, List.size_toArray, List.length_cons, List.length_nil, Nat.reduceAdd, Nat.reduceSub, Array.replicate_succ, Array.replicate_zero, List.push_toArray, List.append_toArray, List.nil_append, List.cons_append]
  gi_wp2
  go_ret
  exact ⟨rfl, rfl⟩

set_option maxRecDepth 100000 in
set_option maxHeartbeats 1000000 in
theorem chunk_nil_in (F : Fence) (n : Nat) (h7 : F.fn 159) (hro : F.round = none) (l Bs Bn : Nat) (a : Option Addr) (cap : Nat) (J : World → Prop) (W : World) (hs : W.cell? ⟨Bs, 0, none⟩ = some (.slice a 0 cap)) (h0 : J W) :
    CallsIn F n Tryz.prog 159 #[.func (.yield l) #[] #[], .pointer (some ⟨Bs, 0, none⟩), .pointer (some ⟨Bn, 0, none⟩)] W fun e W' => (∃ v, e = .returned v) ∧ J W' := by
  refine callsIn_of_wp Tryz.func159 rfl h7 ?_ hro
  simp only [Tryz.ntmps159, List.size_toArray, List.length_cons, List.length_nil, Nat.reduceAdd, Nat.reduceSub, Array.replicate_succ, Array.replicate_zero, List.push_toArray, List.append_toArray, List.nil_append, List.cons_append]
  gi_wp2
  gi_loopw [4] (fun i wr => i = .int .i64 0 ∧ wr = W) (fun _ _ => 0)
  case atStart => exact ⟨rfl, rfl⟩
  case round =>
    obtain ⟨rfl, rfl⟩ := hrel
    gi_wp2
    go_end0
    exact ⟨⟨_, rfl⟩, h0⟩

theorem chunk_stops (F : Fence) (n : Nat) (h7 : F.fn 159) (hro : F.round = none) (hn : 1 ≤ n) (Bs Bn : Nat) (A : Option Addr) (len cap : Nat) (hlc : len ≤ cap) (hm : len ≤ 140737488355328) (hA : 0 < len → ∃ b off, A = some ⟨b, off, none⟩) (w : World)
    (hBs : Bs < w.heap.size) (hBn : Bn < w.heap.size) (hs : w.cell? ⟨Bs, 0, none⟩ = some (.slice A len cap)) (hn4 : w.cell? ⟨Bn, 0, none⟩ = some (.int .i64 1024)) :
    SeqStopsK F n Tryz.prog 159 #[.pointer (some ⟨Bs, 0, none⟩), .pointer (some ⟨Bn, 0, none⟩)] (fun x : Fin (pieces len) => #[pieceW A len x.1]) (KeepC Bs Bn) (fun ys => ys.map Fin.val = List.range (pieces len)) (fun _ => True) (pieces len) w := fun l J Jx W hW hJ hJx hY h0 => by
  have hs' := (hW.cell (p := ⟨Bs, 0, none⟩) hBs).trans hs
  have hn' := (hW.cell (p := ⟨Bn, 0, none⟩) hBn).trans hn4
  rcases Nat.eq_zero_or_pos len with rfl | hpos
  · refine (chunk_nil_in F n h7 hro l Bs Bn A cap (J []) W hs' h0).mono ?_
    rintro e W' ⟨he, hj⟩
    exact ⟨he, .inl ⟨[], by simp [pieces], hj⟩⟩
  · obtain ⟨b, off, rfl⟩ := hA hpos
    refine chunk1_in F n h7 hro hn l Bs Bn b off len cap hlc hm J Jx ?_ (fun pre x W1 hJ1 hlt => ?_) W hs' hn' h0
    · intro pre W1 h1
      exact hJ pre W1 W1.drew none h1 ⟨rfl, rfl, rfl, Nat.le_refl _, fun _ _ _ => rfl⟩ (fun r e => by cases e)
    · have := hY pre x W1 hJ1 hlt
      have e : pieceW (some ⟨b, off, none⟩) len x.1 = pieceV b off len x.1 := by simp [pieceW, pieceV, Addr.add]
      simp only [e] at this
      exact this

theorem k_pos {k : Nat} (h : 0 < k) : k ≠ 0 ∧ k * 4 + 1 ≠ 1 := by omega
theorem k_wrap {k n : Nat} (hk : n = k + 1) (hn : n ≤ 1000000000000) : (0 : Int) ≤ ((k : Nat) : Int) ∧ ((k : Nat) : Int) < ((k + 1 : Nat) : Int) ∧ ((k + 1 : Nat) : Int) - 1 = ((k : Nat) : Int) ∧ wrap64 ((k : Nat) : Int) = ((k : Nat) : Int) := by
  refine ⟨by omega, by omega, by omega, ?_⟩
  unfold wrap64
  omega
theorem k_wrap2 {k m : Nat} (hk : m = k + 1) (hn : m ≤ 1000000000000) : ∃ (n : Nat) (z : Int), n = k + 1 ∧ 0 ≤ z ∧ z < ((n : Nat) : Int) ∧ z.toNat = k ∧ wrap64 (((n : Nat) : Int) - 1) = z ∧ (((n : Nat) : Int) == 0) = false ∧ (0 : Int) < ((n : Nat) : Int) := by
  refine ⟨k + 1, (k : Int), rfl, by omega, by omega, by omega, ?_, ?_, by omega⟩
  · unfold wrap64
    omega
  · simp
    omega
theorem n_max {k m n : Nat} (hk : m = k + 1) (hn : n = k + 1) : n = max 1 m := by omega
theorem d_le {a b D : Nat} (h : b = a + 4) (hD : b ≤ D) : a ≤ D := by omega
theorem pieces_le {n : Nat} (h : n ≤ 140737488355328) : pieces n ≤ 1000000000000 := by unfold pieces; omega

set_option maxRecDepth 100000 in
set_option maxHeartbeats 8000000 in
theorem split_any (st : Int) (block : List UInt8) (A : Option Addr) (len c : Nat) (hlen : len = block.length) (hm : block.length ≤ 140737488355328) (hcap : block.length ≤ c) (fin : Bool) (w : World) (hr : Reads w w.heap.size 1 A block.length (bs block)) :
    Calls Tryz.prog 57 #[.int .i64 st, .slice A len c, .bool fin] w fun e w' => ∃ A' m c', e = .returned (.slice A' m c') ∧ Splat w w' st block fin A' m := by
  subst hlen
  refine (callsIn_wide (n := 7)).1 ?_
  refine callsIn_of_wp_marks Tryz.func57 rfl trivial ?_ rfl
  simp only [Tryz.ntmps57, List.size_toArray, List.length_cons, List.length_nil, Nat.reduceAdd, Nat.reduceSub, Array.replicate_succ, Array.replicate_zero, List.push_toArray, List.append_toArray, List.nil_append, List.cons_append]
  gi_wp2_with (refine ⟨trivial, ?_⟩; gi_at_call 105; refine (chunk_in Fence.wide _ trivial rfl _ _ _ _).mono ?_; rintro e w' ⟨rfl, rfl⟩)
  obtain ⟨W0, hW0⟩ : ∃ W0, (((w.alloc (.cells #[.int .i64 st] 3)).alloc (.cells #[.slice none 0 0] 131)).alloc (.cells #[.slice A block.length c] 23)).alloc (.cells #[.int .i64 1024] 3) = W0 := ⟨_, rfl⟩
  have hsz : W0.heap.size = w.heap.size + 4 := by rw [← hW0]; simp
  have hB0 : Below w.heap.size w W0 := by
    rw [← hW0]
    exact ((((Below.refl _ w).alloc (Nat.le_refl _) _).alloc (by simp) _).alloc (by simp; omega) _).alloc (by simp; omega) _
  have hat : SplAt w.heap.size st block A block.length c (.slice none 0 0) [] [] W0 := by
    have b0 := Boxed.new w 3 (.int .i64 st)
    have b1 := Boxed.new (w.alloc (.cells #[.int .i64 st] 3)) 131 (.slice none 0 0)
    have b2 := Boxed.new ((w.alloc (.cells #[.int .i64 st] 3)).alloc (.cells #[.slice none 0 0] 131)) 23 (.slice A block.length c)
    have b3 := Boxed.new (((w.alloc (.cells #[.int .i64 st] 3)).alloc (.cells #[.slice none 0 0] 131)).alloc (.cells #[.slice A block.length c] 23)) 3 (.int .i64 1024)
    simp only [World.size_alloc] at b1 b2 b3
    rw [← hW0]
    exact ⟨(b1.alloc _).alloc _, World.ownsRow_nil _ _ _ _, rfl, fun j V x h => by simp at h, ((b0.alloc _).alloc _).alloc _, b2.alloc _, b3⟩
  have hA : 0 < block.length → ∃ b off, A = some ⟨b, off, none⟩ := fun h0 => by
    obtain ⟨b, off, e, _⟩ := hr.form h0
    exact ⟨b, off, e⟩
  rw [hW0]
  refine wpIn_rangeFunc_ownG rfl (by decide) (gf := 159) (lb := #[.pointer (some ⟨w.heap.size + 1 + 1, 0, none⟩), .pointer (some ⟨w.heap.size + 1 + 1 + 1, 0, none⟩)]) rfl trivial (enters_of Tryz.func159 (by kernel_rfl) rfl)
    (chunk_stops Fence.wide _ trivial rfl (by decide) (w.heap.size + 1 + 1) (w.heap.size + 1 + 1 + 1) A block.length c hcap hm hA W0 (by omega) (by omega) hat.b.cell hat.n.cell) (fun h k => KeepC.trans h k) ?hKb (Below.refl _ _) (fun _ => rfl)
    (fun pre W => (∃ v Vs, SplAt w.heap.size st block A block.length c v Vs pre W) ∧ Below w.heap.size w W)
    (fun _ _ _ => False) ?hI (fun _ _ _ _ _ hs _ _ => hs) ⟨⟨_, _, hat⟩, hB0⟩
    (fun x => { tmps := #[.int .i64 st, .slice A block.length c, .bool fin, .pointer (some ⟨w.heap.size, 0, none⟩), undef, undef, .slice none 0 0, .pointer (some ⟨w.heap.size + 1, 0, none⟩), pieceW A block.length x.1, .slice A block.length c, .func (.func 159) #[] #[.pointer (some ⟨w.heap.size + 1 + 1, 0, none⟩), .pointer (some ⟨w.heap.size + 1 + 1 + 1, 0, none⟩)], pieceW A block.length x.1, undef, undef, undef, undef, undef, undef, undef, undef, undef, undef, undef, undef, undef, undef, undef, undef, undef, undef, undef, undef, undef, undef, undef, undef, undef, undef, undef, undef, undef, undef, undef], defers := [] }) ?assign ?body ?done ?stop
  case hKb => as_aux_lemma =>
    intro W l o o' hl ho hc hw
    have key : ∀ b, b < W0.heap.size → (W.putObj l o').cell? ⟨b, 0, none⟩ = W.cell? ⟨b, 0, none⟩ := fun b hb =>
      ((Below.refl W0.heap.size W).grown (grownBy_putObj' W l o') (by have := (Array.getElem?_eq_some_iff.1 ho).1; omega) (fun k e => by cases e; omega)).cell hb
    exact ⟨key _ (by omega), key _ (by omega)⟩
  case hI => as_aux_lemma =>
    refine OwnFrom.and (Own.from (fun s X Y row hs hg hr => ?_) _) (ownFrom_below (Nat.le_refl _) (by omega))
    obtain ⟨v, Vs, h⟩ := hs
    exact ⟨v, Vs, h.kept hg hr⟩
  case assign => as_aux_lemma =>
    intro l x W K hK
    gi_wp2
    exact hK
  case body => as_aux_lemma =>
    rintro l pre x W ⟨⟨v, Vs, hS⟩, hBw⟩ hlen
    have hRp0 := (pc_reads (hr.below hBw) x.1 x.2).more hBw.size
    have hRp := Lib.hid (show Reads W.drew W.drew.heap.size 1 (A.map (·.add (1024 * x.1))) (pcB block x.1).length (bs (pcB block x.1)) from hRp0)
    have hNA := Lib.hid (show A.map (·.add (1024 * x.1)) = none → (pcB block x.1).length = 0 from fun e => by
      rcases Nat.eq_zero_or_pos (pcB block x.1).length with h | h
      · exact h
      · obtain ⟨ad, e', _⟩ := hRp0.2 h
        rw [e] at e'
        cases e')
    have hmy := Lib.hid (show (pcB block x.1).length ≤ 140737488355328 by rw [pcB_len]; omega)
    clear hRp0
    have hCL := Lib.hid (clone_any (A.map (·.add (1024 * x.1))) (pcB block x.1) (pcB block x.1).length (pcB block x.1).length rfl hNA.out hmy.out W.drew hRp.out)
    have hx := pcB_len block x.1
    have c7 := hS.box.cell
    have c3 := hS.s.cell
    have hSz := hBw.size
    have hpl : pre.length + 1 ≤ 1000000000000 := by
      have : pieces block.length ≤ 200000000000 := by unfold pieces; omega
      omega
    have hmx : Tryz.prog.follows .mixedOrders = true := by kernel_rfl
    have HS := Lib.hid hS
    clear hS
    unfold pieceW
    rw [← hx]
    have HX := Lib.hid hx
    clear hx
    gi_wp2
    refine region_in_round (S := fun W' => W'.cell? ⟨w.heap.size, 0, none⟩ = some (.int .i64 st)) hmx (by kernel_rfl) c3 (fun hHeld => ?_)
    refine wpAnyH_take (i := 1) (v := .int .i64 st) rfl (by kernel_rfl) (by kernel_rfl) (by kernel_rfl) (fun _ _ _ h => h) (Or.inl ⟨by rfl, fun w' hS => by dsimp only at hS; go_simp⟩) hHeld ?_
    try simp only [Act.put, List.setIfInBounds_toArray, List.set_cons_zero, List.set_cons_succ]
    refine wpAnyH_take (i := 2) (v := _) rfl (by kernel_rfl) (by kernel_rfl) (by kernel_rfl) (fun _ _ _ h => h) (Or.inl ⟨by rfl, fun w' hS => by go_simp; rfl⟩) hHeld ?_
    try simp only [Act.put, List.setIfInBounds_toArray, List.set_cons_zero, List.set_cons_succ]
    refine wpAnyH_ready (rs := [0, 3]) (by kernel_rfl) (by simp) ?_
    refine AllReadyH.cons rfl (fun K hK => ?_) (AllReadyH.cons rfl (fun K hK => ?_) AllReadyH.nil)
    · go_simp
      refine hK.out _ _ ?_ (fun hHeld => ?_)
      · exact c3
      clear hK K
      try simp only [Act.put, List.setIfInBounds_toArray, List.set_cons_zero, List.set_cons_succ]
      refine wpAnyH_ready (rs := [3]) (by kernel_rfl) (by simp) ?_
      refine AllReadyH.cons rfl (fun K hK => ?_) AllReadyH.nil
      go_simp
      refine Calls.mono hCL.out ?_
      rintro e w1 ⟨A', c', rfl, hV, hb1⟩
      have hb1' : Below W.heap.size W w1 := ⟨hb1.os, hb1.tape, hb1.output, hb1.size, hb1.block⟩
      obtain ⟨g', cap', w2, hrun, hc2, hf2, hs2, hend⟩ := spl_step (W := W) HS.out hSz hpl hb1' x A' c' hV
      have d7 := (HS.out.below hb1').box.cell
      have d3 := (HS.out.below hb1').s.cell
      have HEND := Lib.hid hend
      clear hend hb1 hb1' hV
      refine hK.out _ _ ?_ (fun hHeld => ?_)
      · exact d3
      clear hK K
      try simp only [Act.put, List.setIfInBounds_toArray, List.set_cons_zero, List.set_cons_succ]
      refine wpAnyH_ready (rs := [4]) (by kernel_rfl) (by simp) ?_
      refine AllReadyH.cons rfl (fun K hK => ?_) AllReadyH.nil
      go_simp
      refine hK.out _ _ ?_ (fun hHeld => ?_)
      · exact d3
      clear hK K
      try simp only [Act.put, List.setIfInBounds_toArray, List.set_cons_zero, List.set_cons_succ]
      refine wpAnyH_ready (rs := [5]) (by kernel_rfl) (by simp) ?_
      refine AllReadyH.cons rfl (fun K hK => ?_) AllReadyH.nil
      go_simp
      refine hK.out _ _ ?_ (fun hHeld => ?_)
      · exact (by rw [World.cell?_alloc_lt _ _ _ (World.block_lt_of_cell? _ _ d3)]; exact d3)
      clear hK K
      try simp only [Act.put, List.setIfInBounds_toArray, List.set_cons_zero, List.set_cons_succ]
      refine wpAnyH_ready (rs := [6]) (by kernel_rfl) (by simp) ?_
      refine AllReadyH.cons rfl (fun K hK => ?_) AllReadyH.nil
      (rw [if_pos (by rfl)]; refine upon_append rfl rfl rfl hrun ?_; simp only [Act.put, List.setIfInBounds_toArray, List.set_cons_zero, List.set_cons_succ])
      refine hK.out _ _ ?_ (fun hHeld => ?_)
      · exact hs2
      clear hK K
      try simp only [Act.put, List.setIfInBounds_toArray, List.set_cons_zero, List.set_cons_succ]
      refine wpAnyH_ready (rs := [7]) (by kernel_rfl) (by simp) ?_
      refine AllReadyH.cons rfl (fun K hK => ?_) AllReadyH.nil
      go_simp
      refine hK.out _ _ ?_ (fun hHeld => ?_)
      · exact HEND.out.1.s.cell
      clear hK K
      try simp only [Act.put, List.setIfInBounds_toArray, List.set_cons_zero, List.set_cons_succ]
      refine wpAnyH_done (by kernel_rfl) ?_ _
      gi_wp2
      exact ⟨HEND.out.2.2.1.from _, HEND.out.2.1, ⟨_, _, HEND.out.1⟩, hBw.trans HEND.out.2.2.2⟩
    · go_simp
      refine Calls.mono hCL.out ?_
      rintro e w1 ⟨A', c', rfl, hV, hb1⟩
      have hb1' : Below W.heap.size W w1 := ⟨hb1.os, hb1.tape, hb1.output, hb1.size, hb1.block⟩
      obtain ⟨g', cap', w2, hrun, hc2, hf2, hs2, hend⟩ := spl_step (W := W) HS.out hSz hpl hb1' x A' c' hV
      have d7 := (HS.out.below hb1').box.cell
      have d3 := (HS.out.below hb1').s.cell
      have HEND := Lib.hid hend
      clear hend hb1 hb1' hV
      refine hK.out _ _ ?_ (fun hHeld => ?_)
      · exact d3
      clear hK K
      try simp only [Act.put, List.setIfInBounds_toArray, List.set_cons_zero, List.set_cons_succ]
      refine wpAnyH_ready (rs := [0, 4]) (by kernel_rfl) (by simp) ?_
      refine AllReadyH.cons rfl (fun K hK => ?_) (AllReadyH.cons rfl (fun K hK => ?_) AllReadyH.nil)
      · go_simp
        refine hK.out _ _ ?_ (fun hHeld => ?_)
        · exact d3
        clear hK K
        try simp only [Act.put, List.setIfInBounds_toArray, List.set_cons_zero, List.set_cons_succ]
        refine wpAnyH_ready (rs := [4]) (by kernel_rfl) (by simp) ?_
        refine AllReadyH.cons rfl (fun K hK => ?_) AllReadyH.nil
        go_simp
        refine hK.out _ _ ?_ (fun hHeld => ?_)
        · exact d3
        clear hK K
        try simp only [Act.put, List.setIfInBounds_toArray, List.set_cons_zero, List.set_cons_succ]
        refine wpAnyH_ready (rs := [5]) (by kernel_rfl) (by simp) ?_
        refine AllReadyH.cons rfl (fun K hK => ?_) AllReadyH.nil
        go_simp
        refine hK.out _ _ ?_ (fun hHeld => ?_)
        · exact (by rw [World.cell?_alloc_lt _ _ _ (World.block_lt_of_cell? _ _ d3)]; exact d3)
        clear hK K
        try simp only [Act.put, List.setIfInBounds_toArray, List.set_cons_zero, List.set_cons_succ]
        refine wpAnyH_ready (rs := [6]) (by kernel_rfl) (by simp) ?_
        refine AllReadyH.cons rfl (fun K hK => ?_) AllReadyH.nil
        (rw [if_pos (by rfl)]; refine upon_append rfl rfl rfl hrun ?_; simp only [Act.put, List.setIfInBounds_toArray, List.set_cons_zero, List.set_cons_succ])
        refine hK.out _ _ ?_ (fun hHeld => ?_)
        · exact hs2
        clear hK K
        try simp only [Act.put, List.setIfInBounds_toArray, List.set_cons_zero, List.set_cons_succ]
        refine wpAnyH_ready (rs := [7]) (by kernel_rfl) (by simp) ?_
        refine AllReadyH.cons rfl (fun K hK => ?_) AllReadyH.nil
        go_simp
        refine hK.out _ _ ?_ (fun hHeld => ?_)
        · exact HEND.out.1.s.cell
        clear hK K
        try simp only [Act.put, List.setIfInBounds_toArray, List.set_cons_zero, List.set_cons_succ]
        refine wpAnyH_done (by kernel_rfl) ?_ _
        gi_wp2
        exact ⟨HEND.out.2.2.1.from _, HEND.out.2.1, ⟨_, _, HEND.out.1⟩, hBw.trans HEND.out.2.2.2⟩
      · go_simp
        refine hK.out _ _ ?_ (fun hHeld => ?_)
        · exact d3
        clear hK K
        try simp only [Act.put, List.setIfInBounds_toArray, List.set_cons_zero, List.set_cons_succ]
        refine wpAnyH_ready (rs := [0, 5]) (by kernel_rfl) (by simp) ?_
        refine AllReadyH.cons rfl (fun K hK => ?_) (AllReadyH.cons rfl (fun K hK => ?_) AllReadyH.nil)
        · go_simp
          refine hK.out _ _ ?_ (fun hHeld => ?_)
          · exact d3
          clear hK K
          try simp only [Act.put, List.setIfInBounds_toArray, List.set_cons_zero, List.set_cons_succ]
          refine wpAnyH_ready (rs := [5]) (by kernel_rfl) (by simp) ?_
          refine AllReadyH.cons rfl (fun K hK => ?_) AllReadyH.nil
          go_simp
          refine hK.out _ _ ?_ (fun hHeld => ?_)
          · exact (by rw [World.cell?_alloc_lt _ _ _ (World.block_lt_of_cell? _ _ d3)]; exact d3)
          clear hK K
          try simp only [Act.put, List.setIfInBounds_toArray, List.set_cons_zero, List.set_cons_succ]
          refine wpAnyH_ready (rs := [6]) (by kernel_rfl) (by simp) ?_
          refine AllReadyH.cons rfl (fun K hK => ?_) AllReadyH.nil
          (rw [if_pos (by rfl)]; refine upon_append rfl rfl rfl hrun ?_; simp only [Act.put, List.setIfInBounds_toArray, List.set_cons_zero, List.set_cons_succ])
          refine hK.out _ _ ?_ (fun hHeld => ?_)
          · exact hs2
          clear hK K
          try simp only [Act.put, List.setIfInBounds_toArray, List.set_cons_zero, List.set_cons_succ]
          refine wpAnyH_ready (rs := [7]) (by kernel_rfl) (by simp) ?_
          refine AllReadyH.cons rfl (fun K hK => ?_) AllReadyH.nil
          go_simp
          refine hK.out _ _ ?_ (fun hHeld => ?_)
          · exact HEND.out.1.s.cell
          clear hK K
          try simp only [Act.put, List.setIfInBounds_toArray, List.set_cons_zero, List.set_cons_succ]
          refine wpAnyH_done (by kernel_rfl) ?_ _
          gi_wp2
          exact ⟨HEND.out.2.2.1.from _, HEND.out.2.1, ⟨_, _, HEND.out.1⟩, hBw.trans HEND.out.2.2.2⟩
        · go_simp
          refine hK.out _ _ ?_ (fun hHeld => ?_)
          · exact (by rw [World.cell?_alloc_lt _ _ _ (World.block_lt_of_cell? _ _ d3)]; exact d3)
          clear hK K
          try simp only [Act.put, List.setIfInBounds_toArray, List.set_cons_zero, List.set_cons_succ]
          have d7a : (w1.alloc (.cells #[.int .i64 2, .int .i64 0, .int .i64 st, .slice A' (pcB block x.1).length c'] 134)).cell? ⟨w.heap.size + 1, 0, none⟩ = some v := by rw [World.cell?_alloc_lt _ _ _ (World.block_lt_of_cell? _ _ d7)]; exact d7
          refine wpAnyH_ready (rs := [0]) (by kernel_rfl) (by simp) ?_
          refine AllReadyH.cons rfl (fun K hK => ?_) AllReadyH.nil
          go_simp
          refine hK.out _ _ ?_ (fun hHeld => ?_)
          · exact hHeld
          clear hK K
          try simp only [Act.put, List.setIfInBounds_toArray, List.set_cons_zero, List.set_cons_succ]
          refine wpAnyH_ready (rs := [6]) (by kernel_rfl) (by simp) ?_
          refine AllReadyH.cons rfl (fun K hK => ?_) AllReadyH.nil
          (rw [if_pos (by rfl)]; refine upon_append rfl rfl rfl hrun ?_; simp only [Act.put, List.setIfInBounds_toArray, List.set_cons_zero, List.set_cons_succ])
          refine hK.out _ _ ?_ (fun hHeld => ?_)
          · exact hs2
          clear hK K
          try simp only [Act.put, List.setIfInBounds_toArray, List.set_cons_zero, List.set_cons_succ]
          refine wpAnyH_ready (rs := [7]) (by kernel_rfl) (by simp) ?_
          refine AllReadyH.cons rfl (fun K hK => ?_) AllReadyH.nil
          go_simp
          refine hK.out _ _ ?_ (fun hHeld => ?_)
          · exact HEND.out.1.s.cell
          clear hK K
          try simp only [Act.put, List.setIfInBounds_toArray, List.set_cons_zero, List.set_cons_succ]
          refine wpAnyH_done (by kernel_rfl) ?_ _
          gi_wp2
          exact ⟨HEND.out.2.2.1.from _, HEND.out.2.1, ⟨_, _, HEND.out.1⟩, hBw.trans HEND.out.2.2.2⟩
  case done => as_aux_lemma =>
    rintro D ys W hD hys ⟨⟨v, Vs, hS⟩, hBw⟩ hK
    have hyl : ys.length = pieces block.length := by
      have := congrArg List.length hys
      simpa using this
    have c7 := hS.box.cell
    have f7 := hS.box.frozen
    have c3 := hS.s.cell
    have hl7 := hS.box.lt
    have hrow := hS.row
    rw [hyl] at hrow
    have b4 : bits .or .i64 0 4 = 4 := by kernel_rfl
    have b5 : bits .or .i64 1 4 = 5 := by kernel_rfl
    rcases Nat.eq_zero_or_pos (pieces block.length) with h0 | h0
    · have hv : ∃ A2 c2, v = .slice A2 0 c2 := by
        rw [h0] at hrow
        rcases hrow.2 with ⟨rfl, _⟩ | ⟨g, cap, cur, rfl, _⟩
        · exact ⟨_, _, rfl⟩
        · exact ⟨_, _, rfl⟩
      obtain ⟨A2, c2, rfl⟩ := hv
      have HH := Lib.hid (And.intro hys (And.intro hyl (And.intro hrow hS)))
      have HB := Lib.hid hBw
      have HK := Lib.hid hK
      clear hys hyl hrow hS hBw hK hat hB0 hA hr hW0
      cases fin
      · as_aux_lemma =>
        gi_wp2
        have HX : ((W.setCell ⟨w.heap.size + 1, 0, none⟩ (.slice (some ⟨W.heap.size, 0, none⟩) 1 1)).alloc (.cells #[.int .i64 1, .int .i64 4, .int .i64 st, .slice none 0 0] 134)).heap[D]? = some (.deferred (some [])) :=
          ((KeepsOthers.setCell _ _ _).trans (KeepsOthers.alloc _ _)).same D _ HK.out rfl
        refine ⟨by simp, .inl ⟨_, _, rfl, run_takeDeferred HX, ?_⟩⟩
        refine ⟨_, results_tmp rfl _ _ _, _, _, _, rfl, splat_end (by rw [h0]; rfl) ((HB.out.setCell (p := ⟨w.heap.size + 1, 0, none⟩) (Nat.le_succ _) _).alloc (by simp; omega) _) (by omega) HX (by simp) (lone_end _ _ st block h0 false ?_)⟩
        have := Blk.new (W.setCell ⟨w.heap.size + 1, 0, none⟩ (.slice (some ⟨W.heap.size, 0, none⟩) 1 1)) 134 #[.int .i64 1, .int .i64 4, .int .i64 st, .slice none 0 0]
        rw [World.size_setCell] at this
        exact this
      · as_aux_lemma =>
        gi_wp2
        have HX : ((W.setCell ⟨w.heap.size + 1, 0, none⟩ (.slice (some ⟨W.heap.size, 0, none⟩) 1 1)).alloc (.cells #[.int .i64 1, .int .i64 5, .int .i64 st, .slice none 0 0] 134)).heap[D]? = some (.deferred (some [])) :=
          ((KeepsOthers.setCell _ _ _).trans (KeepsOthers.alloc _ _)).same D _ HK.out rfl
        refine ⟨by simp, .inl ⟨_, _, rfl, run_takeDeferred HX, ?_⟩⟩
        refine ⟨_, results_tmp rfl _ _ _, _, _, _, rfl, splat_end (by rw [h0]; rfl) ((HB.out.setCell (p := ⟨w.heap.size + 1, 0, none⟩) (Nat.le_succ _) _).alloc (by simp; omega) _) (by omega) HX (by simp) (lone_end _ _ st block h0 true ?_)⟩
        have := Blk.new (W.setCell ⟨w.heap.size + 1, 0, none⟩ (.slice (some ⟨W.heap.size, 0, none⟩) 1 1)) 134 #[.int .i64 1, .int .i64 5, .int .i64 st, .slice none 0 0]
        rw [World.size_setCell] at this
        exact this
    · obtain ⟨k, hk⟩ : ∃ k, pieces block.length = k + 1 := ⟨pieces block.length - 1, by omega⟩
      rw [hk] at hrow
      obtain ⟨g, cap, rfl⟩ := ownsRow_succ hrow
      have hend := marked_end hS hys hk fin
      have HEND := Lib.hid hend
      obtain ⟨-, hgl, z0, z1, zk, fz, hne, -⟩ := hend
      have fz0 := fz 0
      have fz1 := fz 1
      have fzk := fz (k * 4 + 1)
      obtain ⟨i0, i1, i2, hwk⟩ := k_wrap hk (pieces_le hm)
      have HH := Lib.hid (And.intro hys (And.intro hyl (And.intro hrow hS)))
      have HB := Lib.hid hBw
      have HK := Lib.hid hK
      clear hys hyl hrow hS hBw hK hat hB0 hA hr hW0
      rcases Nat.eq_zero_or_pos k with hk0 | hk0
      · subst hk0
        cases fin
        · as_aux_lemma =>
          gi_wp2
          have hX : marked W g 0 false = (W.setCell ⟨g, 0, none⟩ (.int .i64 1)).setCell ⟨g, 1, none⟩ (.int .i64 4) := by
            simp [marked]
          have HX : (marked W g 0 false).heap[D]? = some (.deferred (some [])) := ((marked_grown W g 0 false).block D (Array.getElem?_eq_some_iff.1 HK.out).1 (by rintro ⟨⟩; have h1 := HEND.out.2.2.2.2.2.2.2.2; obtain ⟨cur, hc⟩ := h1; have := HK.out.symm.trans hc; cases this)).trans HK.out
          rw [← hX]
          refine ⟨by simp, .inl ⟨_, _, rfl, run_takeDeferred HX, ?_⟩⟩
          exact ⟨_, results_tmp rfl _ _ _, _, _, _, rfl, splat_end (by rw [hk]; omega) (HB.out.grown (marked_grown W g 0 false) HB.out.size (fun j e => by cases e; exact HEND.out.2.2.2.2.2.2.2.1)) (by omega) HX (by rw [marked_size]; exact hgl) HEND.out.1⟩
        · as_aux_lemma =>
          gi_wp2
          have hX : marked W g 0 true = ((W.setCell ⟨g, 0, none⟩ (.int .i64 1)).setCell ⟨g, 1, none⟩ (.int .i64 1)).setCell ⟨g, 1, none⟩ (.int .i64 5) := by
            simp [marked]
          have HX : (marked W g 0 true).heap[D]? = some (.deferred (some [])) := ((marked_grown W g 0 true).block D (Array.getElem?_eq_some_iff.1 HK.out).1 (by rintro ⟨⟩; have h1 := HEND.out.2.2.2.2.2.2.2.2; obtain ⟨cur, hc⟩ := h1; have := HK.out.symm.trans hc; cases this)).trans HK.out
          rw [← hX]
          refine ⟨by simp, .inl ⟨_, _, rfl, run_takeDeferred HX, ?_⟩⟩
          exact ⟨_, results_tmp rfl _ _ _, _, _, _, rfl, splat_end (by rw [hk]; omega) (HB.out.grown (marked_grown W g 0 true) HB.out.size (fun j e => by cases e; exact HEND.out.2.2.2.2.2.2.2.1)) (by omega) HX (by rw [marked_size]; exact hgl) HEND.out.1⟩
      · obtain ⟨hk1, hk2⟩ := k_pos hk0
        obtain ⟨n, z, hn, hz0, hzn, hzt, hwn, hn0, hn1⟩ := k_wrap2 hk (pieces_le hm)
        rw [← hn] at HEND c7
        have HKN := Lib.hid (And.intro hk (And.intro hn (And.intro hk1 hk2)))
        clear i0 i1 i2 hwk hk hn hk1 hk2 hk0 h0 HH fz
        cases fin
        · as_aux_lemma =>
          gi_upto_region 10 with fail
          have d7 : (W.setCell ⟨g, 0, none⟩ (.int .i64 1)).cell? ⟨w.heap.size + 1, 0, none⟩ = some (.slice (some ⟨g, 0, none⟩) n cap) := (World.cell?_setCell_other _ _ _ _ (fun e => hne (by first | exact congrArg Addr.block e | exact (congrArg Addr.block e).symm))).trans c7
          have hsw : (W.setCell ⟨g, 0, none⟩ (.int .i64 1)).cell? ⟨g, k * 4 + 1, none⟩ = some (.int .i64 0) := (set_far _ _ _ (Nat.succ_ne_zero _).symm).trans zk
          have fsw : (W.setCell ⟨g, 0, none⟩ (.int .i64 1)).frozen? ⟨g, k * 4 + 1, none⟩ = false := by rw [World.frozen?_setCell]; exact fzk
          have hsz4 : (W.setCell ⟨g, 0, none⟩ (.int .i64 1)).heap.size = W.heap.size := by simp
          obtain ⟨W4, hW4⟩ : ∃ W4, (W.setCell ⟨g, 0, none⟩ (.int .i64 1)) = W4 := ⟨_, rfl⟩
          rw [hW4] at d7 hsw fsw hsz4 ⊢
          have HW4 := Lib.hid hW4
          have HNE := Lib.hid hne
          have HGL := Lib.hid hgl
          have HHD := Lib.hid hD
          have HHS := Lib.hid hsz
          have HS4 := Lib.hid hsz4
          clear hW4 c7 f7 c3 z0 z1 zk fz0 fz1 fzk hl7 hgl hm hcap hD hsz hne b5 hsz4
          gi_upto_region 11 with fail
          have d8 : (W4.setCell ⟨g, k * 4 + 1, none⟩ (.int .i64 4)).cell? ⟨w.heap.size + 1, 0, none⟩ = some (.slice (some ⟨g, 0, none⟩) n cap) := (World.cell?_setCell_other _ _ _ _ (fun e => HNE.out (by first | exact congrArg Addr.block e | exact (congrArg Addr.block e).symm))).trans d7
          obtain ⟨W5, hW5⟩ : ∃ W5, W4.setCell ⟨g, k * 4 + 1, none⟩ (.int .i64 4) = W5 := ⟨_, rfl⟩
          rw [hW5] at d8 ⊢
          have HW5 := Lib.hid hW5
          clear hW5 d7 hsw fsw b4 hz0 hzn hzt hwn hn0 hn1
          gi_wp2
          have hX : marked W g k false = W5 := by
            rw [← HW5.out, ← HW4.out]
            simp [marked, HKN.out.2.2.1, Nat.mul_comm]
          have HX : (marked W g k false).heap[D]? = some (.deferred (some [])) := ((marked_grown W g k false).block D (Array.getElem?_eq_some_iff.1 HK.out).1 (by rintro ⟨⟩; have h1 := HEND.out.2.2.2.2.2.2.2.2; obtain ⟨cur, hc⟩ := h1; have := HK.out.symm.trans hc; cases this)).trans HK.out
          rw [← hX]
          refine ⟨by simp, .inl ⟨_, _, rfl, run_takeDeferred HX, ?_⟩⟩
          exact ⟨_, results_tmp rfl _ _ _, _, _, _, rfl, splat_end (n_max HKN.out.1 HKN.out.2.1) (HB.out.grown (marked_grown W g k false) HB.out.size (fun j e => by cases e; exact HEND.out.2.2.2.2.2.2.2.1)) (d_le HHS.out HHD.out) HX (by rw [marked_size]; exact HGL.out) HEND.out.1⟩
        · as_aux_lemma =>
          gi_upto_region 10 with fail
          have d7 : ((W.setCell ⟨g, 0, none⟩ (.int .i64 1)).setCell ⟨g, 1, none⟩ (.int .i64 1)).cell? ⟨w.heap.size + 1, 0, none⟩ = some (.slice (some ⟨g, 0, none⟩) n cap) := ((World.cell?_setCell_other _ _ _ _ (fun e => hne (by first | exact congrArg Addr.block e | exact (congrArg Addr.block e).symm))).trans (World.cell?_setCell_other _ _ _ _ (fun e => hne (by first | exact congrArg Addr.block e | exact (congrArg Addr.block e).symm)))).trans c7
          have hsw : ((W.setCell ⟨g, 0, none⟩ (.int .i64 1)).setCell ⟨g, 1, none⟩ (.int .i64 1)).cell? ⟨g, k * 4 + 1, none⟩ = some (.int .i64 0) := ((set_far _ _ _ HKN.out.2.2.2.symm).trans (set_far _ _ _ (Nat.succ_ne_zero _).symm)).trans zk
          have fsw : ((W.setCell ⟨g, 0, none⟩ (.int .i64 1)).setCell ⟨g, 1, none⟩ (.int .i64 1)).frozen? ⟨g, k * 4 + 1, none⟩ = false := by rw [World.frozen?_setCell, World.frozen?_setCell]; exact fzk
          have hsz4 : ((W.setCell ⟨g, 0, none⟩ (.int .i64 1)).setCell ⟨g, 1, none⟩ (.int .i64 1)).heap.size = W.heap.size := by simp
          obtain ⟨W4, hW4⟩ : ∃ W4, ((W.setCell ⟨g, 0, none⟩ (.int .i64 1)).setCell ⟨g, 1, none⟩ (.int .i64 1)) = W4 := ⟨_, rfl⟩
          rw [hW4] at d7 hsw fsw hsz4 ⊢
          have HW4 := Lib.hid hW4
          have HNE := Lib.hid hne
          have HGL := Lib.hid hgl
          have HHD := Lib.hid hD
          have HHS := Lib.hid hsz
          have HS4 := Lib.hid hsz4
          clear hW4 c7 f7 c3 z0 z1 zk fz0 fz1 fzk hl7 hgl hm hcap hD hsz hne b5 hsz4
          gi_upto_region 11 with fail
          have d8 : (W4.setCell ⟨g, k * 4 + 1, none⟩ (.int .i64 4)).cell? ⟨w.heap.size + 1, 0, none⟩ = some (.slice (some ⟨g, 0, none⟩) n cap) := (World.cell?_setCell_other _ _ _ _ (fun e => HNE.out (by first | exact congrArg Addr.block e | exact (congrArg Addr.block e).symm))).trans d7
          obtain ⟨W5, hW5⟩ : ∃ W5, W4.setCell ⟨g, k * 4 + 1, none⟩ (.int .i64 4) = W5 := ⟨_, rfl⟩
          rw [hW5] at d8 ⊢
          have HW5 := Lib.hid hW5
          clear hW5 d7 hsw fsw b4 hz0 hzn hzt hwn hn0 hn1
          gi_wp2
          have hX : marked W g k true = W5 := by
            rw [← HW5.out, ← HW4.out]
            simp [marked, HKN.out.2.2.1, Nat.mul_comm]
          have HX : (marked W g k true).heap[D]? = some (.deferred (some [])) := ((marked_grown W g k true).block D (Array.getElem?_eq_some_iff.1 HK.out).1 (by rintro ⟨⟩; have h1 := HEND.out.2.2.2.2.2.2.2.2; obtain ⟨cur, hc⟩ := h1; have := HK.out.symm.trans hc; cases this)).trans HK.out
          rw [← hX]
          refine ⟨by simp, .inl ⟨_, _, rfl, run_takeDeferred HX, ?_⟩⟩
          exact ⟨_, results_tmp rfl _ _ _, _, _, _, rfl, splat_end (n_max HKN.out.1 HKN.out.2.1) (HB.out.grown (marked_grown W g k true) HB.out.size (fun j e => by cases e; exact HEND.out.2.2.2.2.2.2.2.1)) (d_le HHS.out HHD.out) HX (by rw [marked_size]; exact HGL.out) HEND.out.1⟩
  case stop =>
    rintro D c pre W hD _ h _
    exact h.elim
end Go.Proofs.YtbgnggkgmeagkaaGreatDoor
