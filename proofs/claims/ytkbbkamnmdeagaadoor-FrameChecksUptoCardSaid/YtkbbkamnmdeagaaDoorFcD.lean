/-
  The program's Check of settings: its contract. Condition: the bound on the bytes.
-/
import Derived.Test.YtkbbkamnmdeagaaDoorFcC
import Derived.Test.YtkbbkamnmdeagaaDoorRefChk4
import Derived.Test.YtkbbkamnmdeagaaDoorChunk6
import Derived.Test.YtkbbkamnmdeagaaDoorQRound
namespace Go.Proofs.YtkbbkamnmdeagaaDoor
open Go.RowKit Go.Shelf
attribute [local go_sem] Oper.semAt_some

/-- The piece j of settings, as it is handed on. -/
theorem pc6_reads {w : World} {B : Nat} {A : Option Addr} {b : List UInt8} (h : Reads w B 1 A b.length (bs b)) (h6 : b.length % 6 = 0) (j : Nat) (hj : j < pieces6 b.length) :
    ∃ bb off, A = some ⟨bb, off, none⟩ ∧ bb < B ∧ pieceW6 A b.length j = .slice (some ⟨bb, off + 6 * j, none⟩) 6 6 ∧ (pc6 b j).length = 6 ∧ Reads w B 1 (some ⟨bb, off + 6 * j, none⟩) 6 (bs (pc6 b j)) := by
  have hlt : 6 * j + 6 ≤ b.length := by unfold pieces6 at hj; omega
  obtain ⟨bb, off, rfl, hb, _⟩ := h.form (by omega)
  have hl : (pc6 b j).length = 6 := by simp [pc6]; omega
  have h1 := reads_mid (c := b.length + 1) h (at_ := 6 * j) (n := 6) hlt (by omega)
  rw [if_neg (by omega)] at h1
  refine ⟨bb, off, rfl, hb, ?_, hl, h1⟩
  simp only [pieceW6, Option.map_some, Addr.add_lit]
  rw [show min 6 (b.length - 6 * j) = 6 by omega]
/-- The two halves of a piece. -/
theorem pc6_parts {w : World} {B bb off : Nat} {p : List UInt8} (hl : p.length = 6) (h : Reads w B 1 (some ⟨bb, off, none⟩) 6 (bs p)) :
    ∃ x y : Nat, x < 256 ∧ y < 256 ∧ setId p = x * 256 + y ∧ w.cell? ⟨bb, off, none⟩ = some (.int .u8 (x : Int)) ∧ w.cell? ⟨bb, off + 1, none⟩ = some (.int .u8 (y : Int)) ∧ bb < B ∧
      ∃ q : List UInt8, q.length = 4 ∧ beNat q = setX p ∧ Reads w B 1 (some ⟨bb, off + 2, none⟩) 4 (bs q) := by
  match p, hl with
  | [a, b, c, d, e, f], _ =>
    obtain ⟨b', o', he, hb, hc⟩ := h.form (by omega)
    cases he
    refine ⟨a.toNat, b.toNat, a.toNat_lt, b.toNat_lt, by simp [setId, beNat], hc 0 _ rfl, hc 1 _ rfl, hb, [c, d, e, f], rfl, rfl, ?_⟩
    have h2 := reads_mid (c := 7) (l := [a, b, c, d, e, f]) (show Reads w B 1 (some ⟨bb, off, none⟩) [a, b, c, d, e, f].length (bs [a, b, c, d, e, f]) from h) (at_ := 2) (n := 4) (by simp) (by simp)
    rw [if_neg (by omega)] at h2
    exact h2

/-- Where the loop of settings may be left. -/
def ChkOut (w : World) (body : List UInt8) (n : Nat) (W : World) (pre : List (Fin (pieces6 n))) : Prop :=
  ∃ pre' x, pre = pre' ++ [x] ∧ (∀ y ∈ pre', setBad (pc6 body y.1) = 0) ∧ setBad (pc6 body x.1) ≠ 0 ∧ Blk W (w.heap.size + 1) 3 #[.int .i64 ((setBad (pc6 body x.1) : Nat) : Int)] ∧ Below w.heap.size w W

set_option maxRecDepth 100000 in
set_option maxHeartbeats 4000000 in
theorem fchk4_loop (F : Int) (body : List UInt8) (A : Option Addr) (c : Nat) (hcap : body.length ≤ c) (hm : body.length ≤ 140737488355328) (w : World) (hr : Reads w w.heap.size 1 A body.length (bs body)) (h6 : body.length % 6 = 0) (hF : 0 < body.length → oddF F = false) :
    Calls Tryd.prog 37 #[frV ⟨4, F, 0, body⟩ A c] w fun e w' => e = .returned (.int .i64 ((chkF ⟨4, F, 0, body⟩ : Nat) : Int)) ∧ Below w.heap.size w w' := by
  rw [chk4_loop h6 hF]
  obtain ⟨n, hn0⟩ : ∃ n, body.length = n := ⟨_, rfl⟩
  have hz : sizeOk 4 F n = true := by
    rw [← hn0]
    by_cases h0 : body.length = 0
    · simp [sizeOk, h0]
    · simp [sizeOk, h6, hF (by omega)]
  obtain ⟨hb0, hX, hY⟩ := chk_mem w 4 F 0 A n c 0
  have HZ := Lib.hid (sizes_is (K := 4) (F := F) (S := 0) (body := body) hn0 (by omega) A c hz)
  have HB0 := Lib.hid hb0
  have HX := Lib.hid hX
  have HY0 := Lib.hid hY
  have HR := Lib.hid hr
  have H6 := Lib.hid h6
  have HN0 := Lib.hid hn0
  rw [hn0] at hcap hm
  clear hb0 hX hY hr h6 hF hz
  refine (callsIn_wide (n := 7)).1 ?_
  refine callsIn_of_wp_marks Tryd.func37 rfl trivial ?_ rfl
  simp only [Tryd.ntmps37, List.size_toArray, List.length_cons, List.length_nil, Nat.reduceAdd, Nat.reduceSub, Array.replicate_succ, Array.replicate_zero, List.push_toArray, List.append_toArray, List.nil_append, List.cons_append]
  unfold frV
  rw [hn0]
  clear hn0
  gi_wp2_with (first
    | (refine ⟨trivial, ?_⟩; gi_at_call 79; refine (callsIn_wide.2 (HZ.out _)).mono ?_; rintro e w1 ⟨rfl, hb1⟩; have x1 := HX.out.below hb1 HX.out.lt; have y1 := HY0.out.below hb1 HY0.out.lt; have x0 := x1.cell 0; have x3 := x1.cell 3; have y0 := y1.cell 0; have yf := y1.frozen 0; have yl := y1.lt; have HB1 := Lib.hid (HB0.out.trans (hb1.mono HB0.out.size)); have HX := Lib.hid x1; have HY0 := Lib.hid y1; clear x1 y1 hb1)
    | (refine ⟨trivial, ?_⟩; gi_at_call 81; refine (chunk6_new Fence.wide _ trivial rfl _ _ _ _).mono ?_; rintro e w' ⟨rfl, rfl⟩)
    | (refine ⟨trivial, ?_⟩))
  obtain ⟨W0, hW0⟩ : ∃ W0, (w1.alloc (.cells #[.slice A n c] 22)).alloc (.cells #[.int .i64 6] 3) = W0 := ⟨_, rfl⟩
  have hsz : W0.heap.size = w1.heap.size + 2 := by rw [← hW0]; simp
  have hb01 : Below w1.heap.size w1 W0 := by rw [← hW0]; exact ((Below.refl _ _).alloc (Nat.le_refl _) _).alloc (by simp) _
  have hc0 : W0.cell? ⟨w1.heap.size, 0, none⟩ = some (.slice A n c) := by rw [← hW0]; exact ((Blk.new w1 _ _).alloc _).cell 0
  have hc1 : W0.cell? ⟨w1.heap.size + 1, 0, none⟩ = some (.int .i64 6) := by
    rw [← hW0]
    have := (Blk.new (w1.alloc (.cells #[.slice A n c] 22)) 3 #[.int .i64 6]).cell 0
    rwa [World.size_alloc] at this
  have hb0W : Below w.heap.size w W0 := HB1.out.trans (hb01.mono HB1.out.size)
  have hY0 := HY0.out.below hb01 HY0.out.lt
  have hA : 0 < n → ∃ b off, A = some ⟨b, off, none⟩ := fun h0 => by
    obtain ⟨b, off, e, _⟩ := HR.out.form (by have := HN0.out; omega)
    exact ⟨b, off, e⟩
  rw [hW0]
  clear x0 x3 y0 yf yl
  refine wpIn_rangeFunc_ownG rfl (by decide) (gf := 98) (lb := #[.pointer (some ⟨w1.heap.size, 0, none⟩), .pointer (some ⟨w1.heap.size + 1, 0, none⟩)]) rfl trivial (enters_of Tryd.func98 (by kernel_rfl) rfl)
    (chunk6_stops Fence.wide _ trivial rfl (by decide) w1.heap.size (w1.heap.size + 1) A n c hcap hm hA W0 (by omega) (by omega) hc0 hc1) (fun h k => KeepC.trans h k) ?hKb (Below.refl _ _) (fun _ => rfl)
    (fun pre W => (∀ x ∈ pre, setBad (pc6 body x.1) = 0) ∧ Below W0.heap.size W0 W)
    (fun cd pre W => cd = Code.ret ∧ ChkOut w body n W pre) ?hI ?hIx ⟨by simp, Below.refl _ _⟩
    (fun x => { tmps := #[.agg #[.int .i64 4, .int .i64 F, .int .i64 0, .slice A n c], .pointer (some ⟨w.heap.size, 0, none⟩), .pointer (some ⟨w.heap.size + 1, 0, none⟩), pieceW6 A n x.1, undef, undef, .pointer (some ⟨w.heap.size, 0, none⟩), .int .i64 4, .bool false, .bool false, .bool false, .bool false, .bool false, undef, undef, undef, .bool true, .bool true, undef, undef, .pointer (some ⟨w.heap.size, 2, none⟩), .int .i64 0, .bool false, .bool false, .agg #[.int .i64 4, .int .i64 F, .int .i64 0, .slice A n c], .bool true, .bool false, .bool false, .pointer (some ⟨w.heap.size, 0, none⟩), .int .i64 4, .bool false, .bool false, undef, undef, undef, undef, undef, undef, undef, undef, undef, undef, .bool false, .bool false, .pointer (some ⟨w.heap.size, 0, none⟩), .int .i64 4, .bool false, .pointer (some ⟨w.heap.size, 3, none⟩), .slice A n c, .func (.func 98) #[] #[.pointer (some ⟨w1.heap.size, 0, none⟩), .pointer (some ⟨w1.heap.size + 1, 0, none⟩)], pieceW6 A n x.1, undef, undef, undef, undef, undef, undef, undef, undef, undef, undef, undef, undef, undef, undef, undef, undef, undef, undef, undef, undef, undef, undef, undef, undef, undef, undef, undef], defers := [] }) ?assign ?body ?done ?stop
  case hKb =>
    intro W l o o' hl ho hc hw
    have key : ∀ b, b < W0.heap.size → (W.putObj l o').cell? ⟨b, 0, none⟩ = W.cell? ⟨b, 0, none⟩ := fun b hb =>
      ((Below.refl W0.heap.size W).grown (grownBy_putObj' W l o') (by have := (Array.getElem?_eq_some_iff.1 ho).1; omega) (fun k e => by cases e; omega)).cell hb
    exact ⟨key _ (by omega), key _ (by omega)⟩
  case hI =>
    exact OwnFrom.and (Own.from (fun s X Y row hs hg hr => hs) _) (ownFrom_below (Nat.le_refl _) (Nat.le_refl _))
  case hIx =>
    intro cd s X Y row hs hg hr
    obtain ⟨rfl, pre', x, h1, h2, h3, h4, h5⟩ := hs
    refine ⟨rfl, pre', x, h1, h2, h3, ?_, h5.grown hg (by have := h5.size; omega) (fun k e => by have := (hr k e).1; have := hb0W.size; omega)⟩
    exact h4.grown hg (fun e => by obtain ⟨o, ho, hc⟩ := (hr _ e.symm).2; rw [show X.heap[w.heap.size + 1]? = _ from h4] at ho; cases ho; cases hc)
  case assign =>
    intro l x W K hK
    gi_wp2
    exact hK
  case body =>
    rintro l pre x W ⟨hok, hBw⟩ hlen
    obtain ⟨j, hjn⟩ := x
    have hmx : Tryd.prog.follows .mixedOrders = true := by kernel_rfl
    have hbW : Below w.heap.size w W := hb0W.trans (hBw.mono hb0W.size)
    have hrW : Reads W w.heap.size 1 A body.length (bs body) := HR.out.below hbW
    obtain ⟨bb, off, rfl, hbb, hpw, hpl, hpr⟩ := pc6_reads hrW H6.out j (by rw [HN0.out]; exact hjn)
    rw [HN0.out] at hpw
    obtain ⟨x0, y0, hx0, hy0, hid, e0, e1, _, q, hq, hqx, hqr⟩ := pc6_parts hpl hpr
    have hjoin := pair_join x0 y0 hx0 hy0
    obtain ⟨id, hidv⟩ : ∃ id, x0 * 256 + y0 = id := ⟨_, rfl⟩
    rw [hidv] at hjoin hid
    clear hidv
    obtain ⟨P, hP⟩ : ∃ P, off + 6 * j = P := ⟨_, rfl⟩
    rw [hP] at hpw e0 e1 hqr
    have hYW := hY0.below hBw hY0.lt
    have HYW := Lib.hid hYW
    have HBW := Lib.hid hbW
    have HQR := Lib.hid hqr
    have HQ := Lib.hid hq
    have HQX := Lib.hid hqx
    have HID := Lib.hid hid
    have HOK := Lib.hid hok
    have HBw := Lib.hid hBw
    have HP := Lib.hid hP
    simp only
    rw [hpw]
    clear hpw hrW hpl hpr hid hq hqx hqr hok hBw hbW hYW hP hY0
    gi_wp2
    refine quiet_round (fun w' => Below W.heap.size W w') hmx (by kernel_rfl) (by kernel_rfl) ?_ fun hne => ?_
    · exact (Below.refl _ W).drew
    have q0 : ∀ z : WIn (fun w' => Below W.heap.size W w'), z.w.cell? ⟨bb, P, none⟩ = some (.int .u8 (x0 : Int)) := fun z => (z.h.cell (p := ⟨bb, P, none⟩) (World.block_lt_of_cell? _ _ e0)).trans e0
    have q1 : ∀ z : WIn (fun w' => Below W.heap.size W w'), z.w.cell? ⟨bb, P + 1, none⟩ = some (.int .u8 (y0 : Int)) := fun z => (z.h.cell (p := ⟨bb, P + 1, none⟩) (World.block_lt_of_cell? _ _ e1)).trans e1
    repeat (first | go_big_quiet_skip | (go_big_quiet_want; go_big_quiet_op; go_big_quiet_on))
    go_big_quiet_want
    go_big_quiet_op
    refine ⟨_, fun z => quiet_call (fword_is q HQ.out (some ⟨bb, P + 2, none⟩) 4 w.heap.size z.w (HQR.out.below (z.h.mono HBW.out.size))) (fun e w9 h9 => ⟨h9.1, z.h.trans (h9.2.mono z.h.size)⟩), ?_⟩
    go_big_quiet_on
    repeat (first | go_big_quiet_skip | (go_big_quiet_want; go_big_quiet_op; go_big_quiet_on))
    refine wpQuiet_nil ?_
    intro w9 hw9
    have hW9 : Below W.heap.size W w9 := by
      obtain ⟨z, hz⟩ := hw9
      rw [hz]
      exact z.h
    have hk9 : KeepsOthers W w9 := ⟨hW9.size, fun k o hk _ => (hW9.block k (Array.getElem?_eq_some_iff.1 hk).1).trans hk⟩
    have hy9 := HYW.out.below hW9 HYW.out.lt
    have y0' := hy9.cell 0
    have yf := hy9.frozen 0
    have yl := hy9.lt
    have HY9 := Lib.hid hy9
    have HB9 := Lib.hid (HBW.out.trans (hW9.mono HBW.out.size))
    have HW9 := Lib.hid hW9
    have HKC := Lib.hid (show KeepC w1.heap.size (w1.heap.size + 1) W w9 from ⟨hW9.cell (p := ⟨w1.heap.size, 0, none⟩) (by have := HBw.out.size; show w1.heap.size < W.heap.size; omega), hW9.cell (p := ⟨w1.heap.size + 1, 0, none⟩) (by have := HBw.out.size; show w1.heap.size + 1 < W.heap.size; omega)⟩)
    clear hne hw9 q0 q1 e0 e1 hy9 hW9
    have hsb : setBad (pc6 body j) = if id = 4 ∧ 2147483647 < beNat q then 3 else if id = 5 ∧ beNat q < 1024 then 1 else 0 := by
      unfold setBad
      rw [HID.out, HQX.out]
    obtain ⟨x, hx⟩ : ∃ x, beNat q = x := ⟨_, rfl⟩
    rw [hx] at hsb ⊢
    have HHH := Lib.hid hx
    clear hx hjoin hx0 hy0
    have HSZ := Lib.hid hsz
    clear hsz
    by_cases a4 : id = 4
    · have hj4 : ((id : Nat) : Int) = 4 := by omega
      by_cases ax : 2147483647 < x
      · rw [if_pos ⟨a4, ax⟩] at hsb
        have HSB := Lib.hid hsb
        have j1 : (2147483647 : Int) < ((x : Nat) : Int) := by omega
        have j2 := decide_eq_true j1
        clear hsb a4
        gi_wp2
        refine ⟨(hk9.trans (KeepsOthers.setCell _ _ _)).from _, rfl, pre, ⟨j, hjn⟩, rfl, HOK.out, by rw [HSB.out]; omega, ?_, (HB9.out).setCell (p := ⟨w.heap.size + 1, 0, none⟩) (Nat.le_succ _) _⟩
        rw [HSB.out]
        have := HY9.out.set_ 0 (.int .i64 3)
        simpa using this
      · rw [if_neg (fun h => ax h.2), if_neg (fun h => by have := h.1; omega)] at hsb
        have HSB := Lib.hid hsb
        have j1 : ¬ (2147483647 : Int) < ((x : Nat) : Int) := by omega
        have j2 := decide_eq_false j1
        clear hsb a4
        gi_wp2
        refine ⟨hk9.from _, HKC.out, fun z hz => ?_, HBw.out.trans (HW9.out.mono HBw.out.size)⟩
        rcases List.mem_append.1 hz with h | h
        · exact HOK.out z h
        · rw [List.mem_singleton.1 h]
          exact HSB.out
    · have j3 : (((id : Nat) : Int) == 4) = false := (eqb id 4).trans (decide_eq_false a4)
      have j4 : ¬ ((id : Nat) : Int) = 4 := by omega
      by_cases a5 : id = 5
      · have hj5 : ((id : Nat) : Int) = 5 := by omega
        by_cases ax : x < 1024
        · rw [if_neg (fun h => by have := h.1; omega), if_pos ⟨a5, ax⟩] at hsb
          have HSB := Lib.hid hsb
          have j1 : ((x : Nat) : Int) < 1024 := by omega
          have j2 := decide_eq_true j1
          clear hsb a4 a5 j3 j4
          gi_wp2
          refine ⟨(hk9.trans (KeepsOthers.setCell _ _ _)).from _, rfl, pre, ⟨j, hjn⟩, rfl, HOK.out, by rw [HSB.out]; omega, ?_, (HB9.out).setCell (p := ⟨w.heap.size + 1, 0, none⟩) (Nat.le_succ _) _⟩
          rw [HSB.out]
          have := HY9.out.set_ 0 (.int .i64 1)
          simpa using this
        · rw [if_neg (fun h => by have := h.1; omega), if_neg (fun h => ax h.2)] at hsb
          have HSB := Lib.hid hsb
          have j1 : ¬ ((x : Nat) : Int) < 1024 := by omega
          have j2 := decide_eq_false j1
          clear hsb a4 a5 j3 j4
          gi_wp2
          refine ⟨hk9.from _, HKC.out, fun z hz => ?_, HBw.out.trans (HW9.out.mono HBw.out.size)⟩
          rcases List.mem_append.1 hz with h | h
          · exact HOK.out z h
          · rw [List.mem_singleton.1 h]
            exact HSB.out
      · rw [if_neg (fun h => a4 h.1), if_neg (fun h => a5 h.1)] at hsb
        have HSB := Lib.hid hsb
        have j1 : (((id : Nat) : Int) == 5) = false := (eqb id 5).trans (decide_eq_false a5)
        have j2 : ¬ ((id : Nat) : Int) = 5 := by omega
        clear hsb
        gi_wp2
        refine ⟨hk9.from _, HKC.out, fun z hz => ?_, HBw.out.trans (HW9.out.mono HBw.out.size)⟩
        rcases List.mem_append.1 hz with h | h
        · exact HOK.out z h
        · rw [List.mem_singleton.1 h]
          exact HSB.out
  case done =>
    rintro D ys W hD hys ⟨hok, hBw⟩ hK
    have hall : setsChk body = 0 := setsChk_none fun j hj => by
      have hj2 : j ∈ ys.map Fin.val := by
        rw [hys]
        refine List.mem_range.2 ?_
        have := HN0.out
        unfold pieces6
        omega
      obtain ⟨y, hy, rfl⟩ := List.mem_map.1 hj2
      exact hok y hy
    have hYW := hY0.below hBw hY0.lt
    have y0 := hYW.cell 0
    have yf := hYW.frozen 0
    have yl := hYW.lt
    have HYW := Lib.hid (hYW.set_ 0 (.int .i64 0))
    have HBW := Lib.hid (hb0W.trans (hBw.mono hb0W.size))
    have hDn : D ≠ w.heap.size + 1 := by have := hY0.lt; omega
    have HX : Hid ((W.setCell ⟨w.heap.size + 1, 0, none⟩ (.int .i64 0)).heap[D]? = some (.deferred (some []))) := (Below.heap_setCell W ⟨w.heap.size + 1, 0, none⟩ (.int .i64 0) D hDn).trans hK
    have HALL := Lib.hid hall
    have HDD := Lib.hid (show w.heap.size ≤ D by have := hb0W.size; omega)
    clear hys hok hBw hK hall hYW hDn hD hsz hc0 hc1 hA hY0 hb0W hb01
    gi_wp2
    refine ⟨by simp, .inl ⟨_, _, rfl, run_takeDeferred HX.out, ?_⟩⟩
    refine ⟨_, results_cell1 rfl _ _ (w.heap.size + 1) (.int .i64 0) rfl ((cell_putObj HX.out _).trans (HYW.out.cell 0)) Tryd.underlying3, by rw [HALL.out]; rfl, ?_⟩
    exact (HBW.out.setCell (p := ⟨w.heap.size + 1, 0, none⟩) (Nat.le_succ _) _).trans ((Below.refl w.heap.size _).grown (grownBy_putObj' _ D _) (HBW.out.setCell (p := ⟨w.heap.size + 1, 0, none⟩) (Nat.le_succ _) _).size (fun k e => by cases e; exact HDD.out))
  case stop =>
    rintro D cd pre W hD hSp ⟨rfl, pre', x, hpre, hok, hbad, hYb, hbW⟩ hK
    have hlen : pre.length = pre'.length + 1 := by rw [hpre, List.length_append, List.length_singleton]
    have hmap : pre'.map Fin.val = List.range pre'.length ∧ x.1 = pre'.length := by
      rw [hlen, hpre, List.map_append, List.range_succ] at hSp
      obtain ⟨h1, h2⟩ := List.append_inj hSp (by simp)
      exact ⟨h1, by simpa using h2⟩
    have hfirst : setsChk body = setBad (pc6 body x.1) := setsChk_first (by have := x.2; have := HN0.out; unfold pieces6 at *; omega) (fun j hj => by
      have hj2 : j ∈ pre'.map Fin.val := by
        rw [hmap.1]
        exact List.mem_range.2 (by rw [← hmap.2]; exact hj)
      obtain ⟨y, hy, rfl⟩ := List.mem_map.1 hj2
      exact hok y hy) hbad
    have HX := Lib.hid hK
    have HYB := Lib.hid hYb
    have HBW := Lib.hid hbW
    have HFI := Lib.hid hfirst
    have HDD := Lib.hid (show w.heap.size ≤ D by have := hb0W.size; omega)
    clear hSp hok hbad hYb hbW hK hlen hmap hpre hfirst hsz hc0 hc1 hA hY0 hb0W hb01 hD
    gi_wp2
    refine ⟨by simp, .inl ⟨_, _, rfl, run_takeDeferred HX.out, ?_⟩⟩
    refine ⟨_, results_cell1 rfl _ _ (w.heap.size + 1) (.int .i64 ((setBad (pc6 body x.1) : Nat) : Int)) rfl ((cell_putObj HX.out _).trans (HYB.out.cell 0)) Tryd.underlying3, congrArg (fun z : Nat => Ending.returned (Value.int .i64 (z : Int))) HFI.out.symm, ?_⟩
    exact HBW.out.trans ((Below.refl w.heap.size _).grown (grownBy_putObj' _ D _) HBW.out.size (fun k e => by cases e; exact HDD.out))
end Go.Proofs.YtkbbkamnmdeagaaDoor
