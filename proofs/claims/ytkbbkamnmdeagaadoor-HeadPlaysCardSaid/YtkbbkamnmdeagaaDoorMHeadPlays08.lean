/-
  A table behind a pointer: its words, the contracts of Len, Size, Max, New. Condition: none but what the table's own words say.
  A table behind a pointer: the contracts of Max, Resize, Get. Condition: none but what the table's own words say.
-/
import Derived.Test.YtkbbkamnmdeagaaDoorMHeadPlays07
import Derived.Deep.RegionHeld3
import Derived.Deep.DrawnRows
import Derived.Deep.RegionLaw
import Derived.Deep.LoopGhost
namespace Go.Proofs.YtkbbkamnmdeagaaDoor
open Go.RowKit
attribute [local go_sem ↓] Go.wp_at_zero Go.wp_at_succ

/-- A table: its block, its row, what lies in it. -/
structure Tab (w : World) (g : Nat) (A : Option Addr) (c : Nat) (xs : List Fld) (mx : Nat) : Prop where
  blk : Blk w g 129 #[.slice A xs.length c, .int .i64 (wt xs : Nat), .int .i64 (mx : Nat)]
  own : w.ownsRow 0 86 2 (.slice A xs.length c) xs.length (fvs xs)
  wt : wt xs ≤ 4096
  mx : mx ≤ 4096
/-- The blocks that are a table's own. -/
def tOwn (g : Nat) (A : Option Addr) (k : Nat) : Prop := k = g ∨ ∃ a, A = some a ∧ k = a.block
/-- All but these blocks lies as it lay. -/
structure Keep (S : Nat → Prop) (w w' : World) : Prop where
  os : w'.os = w.os
  tape : w'.tape = w.tape
  output : w'.output = w.output
  size : w.heap.size ≤ w'.heap.size
  block : ∀ k, k < w.heap.size → ¬ S k → w'.heap[k]? = w.heap[k]?
section
variable {S T : Nat → Prop} {w w' w1 w2 : World}
theorem Keep.refl (S : Nat → Prop) (w : World) : Keep S w w := ⟨rfl, rfl, rfl, Nat.le_refl _, fun _ _ _ => rfl⟩
theorem Keep.of_below (h : Below w.heap.size w w') : Keep S w w' := ⟨h.os, h.tape, h.output, h.size, fun k hk _ => h.block k hk⟩
theorem Keep.trans (h : Keep S w w1) (k : Keep T w1 w2) (hT : ∀ i, T i → S i ∨ w.heap.size ≤ i) : Keep S w w2 :=
  ⟨k.os.trans h.os, k.tape.trans h.tape, k.output.trans h.output, Nat.le_trans h.size k.size, fun i hi hS =>
    (k.block i (Nat.lt_of_lt_of_le hi h.size) fun hTi => by rcases hT i hTi with h1 | h1; exact hS h1; omega).trans (h.block i hi hS)⟩
theorem Keep.mono (h : Keep S w w') (hT : ∀ i, S i → T i) : Keep T w w' := ⟨h.os, h.tape, h.output, h.size, fun i hi hS => h.block i hi fun hs => hS (hT i hs)⟩
theorem Keep.below {B : Nat} (h : Keep S w w') (hB : B ≤ w.heap.size) (hS : ∀ i, S i → B ≤ i) : Below B w w' :=
  ⟨h.os, h.tape, h.output, h.size, fun k hk => h.block k (by omega) fun hs => by have := hS k hs; omega⟩
theorem Keep.drew (h : Keep S w w') : Keep S w w'.drew := ⟨h.os, h.tape, h.output, h.size, h.block⟩
theorem Keep.drewN (h : Keep S w w') (n : Nat) : Keep S w (w'.drewN n) := ⟨h.os, h.tape, h.output, h.size, h.block⟩
theorem Keep.alloc (h : Keep S w w') (o : Obj) : Keep S w (w'.alloc o) :=
  ⟨h.os, h.tape, h.output, Nat.le_trans h.size (by simp), fun i hi hS => (Below.heap_alloc w' o i (Nat.lt_of_lt_of_le hi h.size)).trans (h.block i hi hS)⟩
theorem Keep.setCell (h : Keep S w w') {p : Addr} (hp : S p.block ∨ w.heap.size ≤ p.block) (u : Value) : Keep S w (w'.setCell p u) :=
  ⟨h.os, h.tape, h.output, by simpa [World.setCell] using h.size, fun i hi hS => (Below.heap_setCell w' p u i (by
    rintro rfl
    rcases hp with hp | hp
    · exact hS hp
    · omega)).trans (h.block i hi hS)⟩
theorem Keep.grown (h : Keep S w w1) {row : Option Nat} (hg : w1.grownBy w2 row) (hr : ∀ k, row = some k → S k ∨ w.heap.size ≤ k) : Keep S w w2 :=
  ⟨hg.os.trans h.os, hg.tape.trans h.tape, hg.output.trans h.output, Nat.le_trans h.size hg.size, fun i hi hS =>
    (hg.block i (Nat.lt_of_lt_of_le hi h.size) fun e => by rcases hr i e.symm with h1 | h1; exact hS h1; omega).trans (h.block i hi hS)⟩
theorem Blk.keep {g : Nat} {t : TypeId} {cs : Array Value} (h : Blk w g t cs) (hk : Keep S w w') (hS : ¬ S g) : Blk w' g t cs := (hk.block g h.lt hS).trans h
theorem own_keep {B size n : Nat} {e : TypeId} {A : Option Addr} {c : Nat} {xs : List Value} (h : w.ownsRow B e size (.slice A n c) n xs) (hk : Keep S w w') (hS : ∀ a, A = some a → ¬ S a.block) : w'.ownsRow B e size (.slice A n c) n xs := by
  refine ⟨h.1, ?_⟩
  rcases h.2 with h0 | ⟨g, cap, cur, hv, hB, hh, hr⟩
  · exact .inl h0
  · refine .inr ⟨g, cap, cur, hv, hB, ?_, hr⟩
    injection hv with hA
    exact (hk.block g (Blk.lt (t := e) (cs := cur) hh) (hS _ hA)).trans hh
end
theorem own_cut {w : World} {B size n k : Nat} {e : TypeId} {A : Option Addr} {c : Nat} {xs : List Value} (h : w.ownsRow B e size (.slice A n c) n xs) (hk : k < n) : w.ownsRow B e size (.slice A k c) k (xs.take (k * size)) := by
  have hm : k * size ≤ n * size := Nat.mul_le_mul_right _ (by omega)
  refine ⟨by rw [List.length_take, h.1]; omega, ?_⟩
  rcases h.2 with ⟨_, h0⟩ | ⟨g, cap, cur, hv, hB, hh, hc, hcm, hs, hx⟩
  · omega
  · injection hv with hA _ hcc
    subst hcc
    refine .inr ⟨g, c, cur, by rw [hA], hB, hh, by omega, hcm, hs, ?_⟩
    rw [← hx, List.take_take, Nat.min_eq_left hm]
theorem reads_own {w : World} {B size n : Nat} {e : TypeId} {A : Option Addr} {c : Nat} {xs : List Value} (h : w.ownsRow B e size (.slice A n c) n xs) : Reads w w.heap.size size A n xs := Reads.of_own h
section
variable {w w' : World} {g : Nat} {A : Option Addr} {c : Nat} {xs : List Fld} {mx : Nat} {S : Nat → Prop}
theorem Tab.keep (h : Tab w g A c xs mx) (hk : Keep S w w') (hS : ∀ k, tOwn g A k → ¬ S k) : Tab w' g A c xs mx :=
  ⟨h.blk.keep hk (hS g (.inl rfl)), own_keep h.own hk fun a ha => hS _ (.inr ⟨a, ha, rfl⟩), h.wt, h.mx⟩
theorem Tab.below (h : Tab w g A c xs mx) (hb : Below w.heap.size w w') : Tab w' g A c xs mx := h.keep (S := fun _ => False) (Keep.of_below hb) fun _ _ h => h
theorem Tab.cells (h : Tab w g A c xs mx) : w.cell? ⟨g, 0, none⟩ = some (.slice A xs.length c) ∧ w.cell? ⟨g, 1, none⟩ = some (.int .i64 (Go.Proofs.YtkbbkamnmdeagaaDoor.wt xs : Nat)) ∧ w.cell? ⟨g, 2, none⟩ = some (.int .i64 (mx : Nat)) :=
  ⟨h.blk.cell 0, h.blk.cell 1, h.blk.cell 2⟩
theorem Tab.cap (h : Tab w g A c xs mx) : xs.length ≤ c ∧ c ≤ maxLen ∧ xs.length ≤ 128 := by
  have h1 := wt_len xs
  have h2 := h.wt
  have h3 := h.mx
  rcases h.own.2 with ⟨he, h0⟩ | ⟨_, cap, cur, he, _, _, hc, hm, _⟩
  · injection he with _ _ hc
    omega
  · injection he with _ _ hc
    subst hc
    exact ⟨hc, hm, by omega⟩
theorem Tab.lt (h : Tab w g A c xs mx) : ∀ k, tOwn g A k → k < w.heap.size := by
  rintro k (rfl | ⟨a, rfl, rfl⟩)
  · exact h.blk.lt
  · exact (h.own.lt _ rfl).2
end

theorem cell_behind {w w1 : World} (hb : Below w.heap.size w w1) {p : Addr} {v : Value} (h : w.cell? p = some v) : w1.cell? p = some v := (hb.cell (World.block_lt_of_cell? w p h)).trans h
theorem frozen_behind {w w1 : World} (hb : Below w.heap.size w w1) {b o : Nat} {z : Bool} (hlt : b < w.heap.size) (h : w.frozen? ⟨b, o, none⟩ = z) : w1.frozen? ⟨b, o, none⟩ = z := (hb.frozen (p := ⟨b, o, none⟩) hlt).trans h

theorem cell_drew {w w1 : World} (hb : Below w.drew.heap.size w.drew w1) {p : Addr} {v : Value} (h : w.cell? p = some v) : w1.cell? p = some v := cell_behind hb h
theorem frozen_drew {w w1 : World} (hb : Below w.drew.heap.size w.drew w1) {b o : Nat} {z : Bool} (hlt : b < w.heap.size) (h : w.frozen? ⟨b, o, none⟩ = z) : w1.frozen? ⟨b, o, none⟩ = z := frozen_behind hb hlt h

set_option maxHeartbeats 1000000 in
theorem len_any {w : World} {g : Nat} {A : Option Addr} {c : Nat} {xs : List Fld} {mx : Nat} (h : Tab w g A c xs mx) :
    Calls Tryd.prog 52 #[.pointer (some ⟨g, 0, none⟩)] w fun e w' => e = .returned (.int .i64 ((12 + xs.length : Nat) : Int)) ∧ Below w.heap.size w w' := by
  obtain ⟨c0, _, _⟩ := h.cells
  obtain ⟨_, _, hl⟩ := h.cap
  have hg := h.blk.lt
  clear h
  go_enter Tryd.func52, Tryd.ntmps52
  go_wp2
  go_region_held3 (fun w' => w'.cell? ⟨g, 0, none⟩ = some (.slice A xs.length c)) (go_keep) (first | (go_at_call 88; refine (always_any _).mono ?_; rintro e w' ⟨rfl, rfl⟩))
  all_goals
    go_wp2
    go_ret
    refine ⟨?_, (((Below.refl _ _).alloc (Nat.le_refl _) _)).drew⟩
    rw [IntKind.wrap_i64]
    simp
    omega
set_option maxHeartbeats 1000000 in
theorem tsize_any {w : World} {g : Nat} {A : Option Addr} {c : Nat} {xs : List Fld} {mx : Nat} (h : Tab w g A c xs mx) :
    Calls Tryd.prog 53 #[.pointer (some ⟨g, 0, none⟩)] w fun e w' => e = .returned (.int .i64 ((wt xs : Nat) : Int)) ∧ w = w' := by
  obtain ⟨_, c1, _⟩ := h.cells
  clear h
  go_enter Tryd.func53, Tryd.ntmps53
  go_wp2
  go_ret
  exact ⟨rfl, rfl⟩
set_option maxHeartbeats 1000000 in
theorem right_yes (m : Int) (h0 : 0 ≤ m) (h : m ≤ 4096) (w : World) :
    Calls Tryd.prog 82 #[.int .i64 m] w fun e w' => e = .returned (.bool true) ∧ w = w' := by
  go_enter Tryd.func82, Tryd.ntmps82
  go_wp2
  go_ret
  refine ⟨?_, rfl⟩
  simp [h]
set_option maxHeartbeats 1000000 in
theorem right_no (m : Int) (h : m < 0 ∨ 4096 < m) (w : World) :
    Calls Tryd.prog 82 #[.int .i64 m] w fun e w' => e = .returned (.bool false) ∧ w = w' := by
  rcases h with h | h
  · go_enter Tryd.func82, Tryd.ntmps82
    go_wp2
    go_ret
    exact ⟨rfl, rfl⟩
  · have h0 : 0 ≤ m := by omega
    have h1 : decide (m ≤ 4096) = false := by simp; omega
    go_enter Tryd.func82, Tryd.ntmps82
    go_wp2
    go_ret
    exact ⟨by simp, rfl⟩
set_option maxHeartbeats 1000000 in
theorem new_no (m : Int) (h : m < 0 ∨ 4096 < m) (w : World) :
    Calls Tryd.prog 44 #[.int .i64 m] w fun e w' => e = .returned (.tuple #[.pointer none, .iface 113 (.int .i64 1)]) ∧ w = w' := by
  have H := Lib.hid h
  clear h
  go_enter Tryd.func44, Tryd.ntmps44
  go_wp2_with (go_at_call 82; refine (right_no _ H.out _).mono ?_; rintro e w' ⟨rfl, rfl⟩)
  go_ret2
  exact ⟨rfl, rfl⟩
set_option maxHeartbeats 1000000 in
theorem new_yes (m : Nat) (h : m ≤ 4096) (w : World) :
    Calls Tryd.prog 44 #[.int .i64 (m : Int)] w fun e w' => e = .returned (.tuple #[.pointer (some ⟨w.heap.size, 0, none⟩), .nilIface]) ∧ Tab w' w.heap.size none 0 [] m ∧ Below w.heap.size w w' ∧ w'.heap.size = w.heap.size + 1 := by
  go_enter Tryd.func44, Tryd.ntmps44
  go_wp2_with (go_at_call 82; refine (right_yes _ (by omega) (by omega) _).mono ?_; rintro e w' ⟨rfl, rfl⟩)
  go_ret2
  refine ⟨rfl, ⟨Blk.new _ _ _, World.ownsRow_nil _ _ _ _, by simp [wt], h⟩, (Below.refl _ _).alloc (Nat.le_refl _) _, by simp⟩

theorem wt_take_mono' (xs : List Fld) (n : Nat) : wt (xs.take n) ≤ wt (xs.take (n + 1)) := by
  have h1 := wt_take_le (xs.take (n + 1)) n
  rwa [List.take_take, Nat.min_eq_left (by omega)] at h1
theorem own_setT {w : World} {B size n : Nat} {e : TypeId} {A : Option Addr} {c : Nat} {xs : List Value} (h : w.ownsRow B e size (.slice A n c) n xs) {p : Addr} (hp : ∀ a, A = some a → a.block ≠ p.block) (u : Value) : (w.setCell p u).ownsRow B e size (.slice A n c) n xs := by
  refine ⟨h.1, ?_⟩
  rcases h.2 with h0 | ⟨g, cap, cur, hv, hB, hh, hr⟩
  · exact .inl h0
  · refine .inr ⟨g, cap, cur, hv, hB, ?_, hr⟩
    injection hv with hA
    exact (Below.heap_setCell w p u g (hp _ hA)).trans hh
theorem tab_ne {w : World} {g : Nat} {A : Option Addr} {c : Nat} {xs : List Fld} {mx : Nat} (h : Tab w g A c xs mx) : ∀ a, A = some a → a.block ≠ g := by
  intro a ha he
  have := own_blk_ne h.own h.blk (by decide)
  rw [ha] at this
  exact this (by simp [Value.ownBlock, he])
theorem shr_step {w wr w1 : World} {g : Nat} {A : Option Addr} {c : Nat} {xs : List Fld} {mx n : Nat} (h : Tab wr g A c (xs.take (n + 1)) mx) (hn : n + 1 ≤ xs.length) (hb : Below wr.drew.heap.size wr.drew w1) (hk : Keep (tOwn g A) w wr) :
    Tab ((w1.setCell ⟨g, 1, none⟩ (.int .i64 ((wt (xs.take n) : Nat) : Int))).setCell ⟨g, 0, none⟩ (.slice A n c)) g A c (xs.take n) mx ∧
      Keep (tOwn g A) w ((w1.setCell ⟨g, 1, none⟩ (.int .i64 ((wt (xs.take n) : Nat) : Int))).setCell ⟨g, 0, none⟩ (.slice A n c)) := by
  have hlen : (xs.take n).length = n := by simp; omega
  have hlen1 : (xs.take (n + 1)).length = n + 1 := by simp; omega
  have hlt : g < wr.heap.size := h.blk.lt
  have hb' : Below wr.heap.size wr w1 := ⟨hb.os, hb.tape, hb.output, hb.size, hb.block⟩
  have h1 := h.below hb'
  have hne := tab_ne h
  constructor
  · refine ⟨?_, ?_, ?_, h.mx⟩
    · have := ((h1.blk.set_ 1 (.int .i64 ((wt (xs.take n) : Nat) : Int))).set_ 0 (.slice A n c))
      rw [hlen]
      simpa using this
    · have ho := h1.own
      rw [hlen1] at ho
      have h2 := own_cut ho (show n < n + 1 by omega)
      rw [fvs_take, List.take_take, Nat.min_eq_left (by omega)] at h2
      rw [hlen]
      exact own_setT (own_setT h2 hne _) hne _
    · have h3 := wt_take_mono' xs n
      have h4 := h.wt
      omega
  · have k1 : Keep (tOwn g A) wr w1 := Keep.of_below hb'
    exact ((hk.trans k1 fun i hi => .inl hi).setCell (.inl (.inl rfl)) _).setCell (.inl (.inl rfl)) _

set_option maxRecDepth 100000 in
set_option maxHeartbeats 4000000 in
theorem shrink_any {w : World} {g : Nat} {A : Option Addr} {c : Nat} {xs : List Fld} {mx : Nat} (h : Tab w g A c xs mx) (most : Nat) (hmo : most ≤ 4096) :
    Calls Tryd.prog 84 #[.pointer (some ⟨g, 0, none⟩), .int .i64 (most : Int)] w fun e w' => e = .returned (.tuple #[]) ∧ Tab w' g A c (shr most xs) mx ∧ Keep (tOwn g A) w w' := by
  obtain ⟨hcap, hcm, hl⟩ := h.cap
  unfold maxLen at hcm
  have hmx := h.mx
  go_enter Tryd.func84, Tryd.ntmps84
  go_wp2
  go_loopg [4] xs.length (fun n _ wr => n ≤ xs.length ∧ Hid (shrN most xs n = shrN most xs xs.length) ∧ Hid (Tab wr g A c (xs.take n) mx) ∧ Hid (Keep (tOwn g A) w wr))
  case atStart => exact ⟨Nat.le_refl _, rfl, by rw [List.take_of_length_le (Nat.le_refl _)]; exact h, Keep.refl _ _⟩
  case round =>
    obtain ⟨hn, H1, H2, H3⟩ := hrel
    have hlen : (xs.take gk).length = gk := by simp; omega
    have hT := H2.out
    obtain ⟨c0, c1, c2⟩ := hT.cells
    have hw4 := hT.wt
    have f0 := hT.blk.frozen 0
    have f1 := hT.blk.frozen 1
    have hg := hT.blk.lt
    have hown := hT.own
    rw [hlen] at c0 hown
    by_cases hgo : wt (xs.take gk) ≤ most
    · have hN : shrN most xs gk = gk := shrN_stay hgo
      have hd : decide ((most : Int) < ((wt (xs.take gk) : Nat) : Int)) = false := by simp; omega
      clear hT hown hlen
      generalize wt (xs.take gk) = W at *
      go_wp2
      go_end0
      have e : shr most xs = xs.take gk := by unfold shr; rw [← H1.out, hN]
      rw [e]
      exact ⟨rfl, H2.out, H3.out⟩
    · obtain ⟨n, rfl⟩ : ∃ n, gk = n + 1 := ⟨gk - 1, by
        have : gk ≠ 0 := by rintro rfl; simp [wt] at hgo
        omega⟩
      have hN : shrN most xs (n + 1) = shrN most xs n := shrN_go hgo
      have hws := wt_take_succ xs n (by omega)
      have hfs := fsz_pos xs[n]
      have hr := reads_own hown
      have hr' : Reads wr wr.heap.size 2 A (xs.take (n + 1)).length (fvs (xs.take (n + 1))) := by rw [hlen]; exact hr
      obtain ⟨rb, ro, hA, hrb, hcl⟩ := reads_fld hr' (by omega)
      obtain ⟨e1, e2⟩ := hcl n (by omega)
      have hget : (xs.take (n + 1))[n]'(by omega) = xs[n] := by simp
      rw [hget] at e1 e2
      have hne : rb ≠ g := by
        have := own_blk_ne hown hT.blk (by decide)
        rw [hA] at this
        simpa [Value.ownBlock] using this
      have hsz : fsz xs[n] ≤ 4096 := by omega
      generalize hf : xs[n] = f at *
      have hfok : fOk f := by
        unfold fsz at hsz
        constructor <;> omega
      have HD := Lib.hid hN
      have HO := Lib.hid hown
      have hwr : IntKind.i64.wrap (((wt (xs.take (n + 1)) : Nat) : Int) - ((fsz f : Nat) : Int)) = ((wt (xs.take n) : Nat) : Int) := by
        rw [IntKind.wrap_i64]
        omega
      have HS := Lib.hid (fun (w1 : World) (hb : Below wr.drew.heap.size wr.drew w1) => shr_step (w := w) H2.out hn hb H3.out)
      have hd : decide ((most : Int) < ((wt (xs.take (n + 1)) : Nat) : Int)) = true := by simp; omega
      clear hr hr' hcl hget hlen hT hown hf hN hws
      subst hA
      generalize wt (xs.take (n + 1)) = W at *
      generalize wt (xs.take n) = W0 at *
      have i0 : (0 : Int) ≤ (n : Int) := by omega
      have i1 : (n : Int) < (n : Int) + 1 := by omega
      go_wp2
      go_region_law? (first | (go_simp; go_at_call 83; refine (size_any f hfok _).mono ?_; rintro e w1 ⟨rfl, hb⟩; have b1 := cell_drew hb c1; have b0 := cell_drew hb c0; have g1 := frozen_drew hb hg f1; have g0 := frozen_drew hb hg f0))
      all_goals
        go_wp2
        go_roundg n
        case measure => omega
        case rel => exact ⟨by omega, HD.out.symm.trans H1.out, (HS.out _ hb).1, (HS.out _ hb).2⟩
end Go.Proofs.YtkbbkamnmdeagaaDoor
namespace Go.Proofs.YtkbbkamnmdeagaaDoor
open Go.RowKit
attribute [local go_sem ↓] Go.wp_at_zero Go.wp_at_succ

set_option maxHeartbeats 1000000 in
theorem tmax_any {w : World} {g : Nat} {A : Option Addr} {c : Nat} {xs : List Fld} {mx : Nat} (h : Tab w g A c xs mx) :
    Calls Tryd.prog 55 #[.pointer (some ⟨g, 0, none⟩)] w fun e w' => e = .returned (.int .i64 ((mx : Nat) : Int)) ∧ w = w' := by
  obtain ⟨_, _, c2⟩ := h.cells
  clear h
  go_enter Tryd.func55, Tryd.ntmps55
  go_wp2
  go_ret
  exact ⟨rfl, rfl⟩
set_option maxHeartbeats 1000000 in
theorem resize_no {w : World} (g : Nat) (m : Int) (h : m < 0 ∨ 4096 < m) :
    Calls Tryd.prog 48 #[.pointer (some ⟨g, 0, none⟩), .int .i64 m] w fun e w' => e = .returned (.iface 113 (.int .i64 1)) ∧ w = w' := by
  have H := Lib.hid h
  clear h
  go_enter Tryd.func48, Tryd.ntmps48
  go_wp2_with (go_at_call 82; refine (right_no _ H.out _).mono ?_; rintro e w' ⟨rfl, rfl⟩)
  go_ret
  exact ⟨rfl, rfl⟩
theorem Tab.setMx {w : World} {g : Nat} {A : Option Addr} {c : Nat} {xs : List Fld} {mx : Nat} (h : Tab w g A c xs mx) (m : Nat) (hm : m ≤ 4096) : Tab (w.setCell ⟨g, 2, none⟩ (.int .i64 (m : Int))) g A c xs m := by
  refine ⟨?_, own_setT h.own (tab_ne h) _, h.wt, hm⟩
  have := h.blk.set_ 2 (.int .i64 (m : Int))
  simpa using this
set_option maxHeartbeats 1000000 in
theorem resize_yes {w : World} {g : Nat} {A : Option Addr} {c : Nat} {xs : List Fld} {mx : Nat} (h : Tab w g A c xs mx) (m : Nat) (hm : m ≤ 4096) :
    Calls Tryd.prog 48 #[.pointer (some ⟨g, 0, none⟩), .int .i64 (m : Int)] w fun e w' => e = .returned .nilIface ∧ Tab w' g A c (shr m xs) m ∧ Keep (tOwn g A) w w' := by
  obtain ⟨_, _, c2⟩ := h.cells
  have f2 := h.blk.frozen 2
  have h2 := Lib.hid (h.setMx m hm)
  have hk := Lib.hid ((Keep.refl (tOwn g A) w).setCell (p := ⟨g, 2, none⟩) (.inl (.inl rfl)) (.int .i64 (m : Int)))
  clear h
  go_enter Tryd.func48, Tryd.ntmps48
  go_wp2_with (go_at_call 82; refine (right_yes _ (by omega) (by omega) _).mono ?_; rintro e w' ⟨rfl, rfl⟩)
  go_wp2_with (go_at_call 84; refine (shrink_any h2.out m hm).mono ?_; rintro e w' ⟨rfl, h3, h4⟩)
  go_ret
  exact ⟨rfl, h3, hk.out.trans h4 fun _ hi => .inl hi⟩

theorem alw_reads (w : World) : Reads (w.alloc (.cells (fvs alw).toArray 86)) (w.heap.size + 1) 2 (some ⟨w.heap.size, 0, none⟩) alw.length (fvs alw) := by
  refine ⟨fvs_length _, fun _ => ⟨_, rfl, by simp, fun j u hu => ?_⟩⟩
  rw [Addr.add_lit, Blk.cell (Blk.new _ _ _)]
  simpa using hu
theorem tAll_low {xs : List Fld} {k : Nat} (h : k < 12) : (tAll xs).getD k ([], []) = alw[k]'h := by
  rw [List.getD_eq_getElem?_getD, tAll, List.getElem?_append_left (by rw [alw_len]; exact h), List.getElem?_eq_getElem (by rw [alw_len]; exact h)]
  rfl
theorem tAll_high {xs : List Fld} {k : Nat} (h : k < xs.length) : (tAll xs).getD (12 + k) ([], []) = xs[k] := by
  rw [List.getD_eq_getElem?_getD, tAll, List.getElem?_append_right (by rw [alw_len]; omega), alw_len, Nat.add_sub_cancel_left, List.getElem?_eq_getElem h, Option.getD_some]

/-- Behind a call: the result's own cells. -/
theorem res_behind {w w1 : World} (hb : Below ((w.alloc (.cells #[.string ⟨#[]⟩, .string ⟨#[]⟩] 86)).alloc (.cells (fvs alw).toArray 86)).heap.size ((w.alloc (.cells #[.string ⟨#[]⟩, .string ⟨#[]⟩] 86)).alloc (.cells (fvs alw).toArray 86)) w1) :
    w1.cell? ⟨w.heap.size, 0, none⟩ = some (.string ⟨#[]⟩) ∧ w1.cell? ⟨w.heap.size, 1, none⟩ = some (.string ⟨#[]⟩) ∧ w1.frozen? ⟨w.heap.size, 0, none⟩ = false ∧ w1.frozen? ⟨w.heap.size, 1, none⟩ = false := by
  have hB : Blk ((w.alloc (.cells #[.string ⟨#[]⟩, .string ⟨#[]⟩] 86)).alloc (.cells (fvs alw).toArray 86)) w.heap.size 86 #[.string ⟨#[]⟩, .string ⟨#[]⟩] := (Blk.new w _ _).alloc _
  have h2 : Blk w1 w.heap.size 86 #[.string ⟨#[]⟩, .string ⟨#[]⟩] := hB.below hb (by simp; omega)
  exact ⟨h2.cell 0, h2.cell 1, h2.frozen 0, h2.frozen 1⟩

set_option maxRecDepth 100000 in
set_option maxHeartbeats 4000000 in
theorem get_no {w : World} {g : Nat} {A : Option Addr} {c : Nat} {xs : List Fld} {mx : Nat} (h : Tab w g A c xs mx) (i : Int) (hi : i < 1 ∨ ((12 + xs.length : Nat) : Int) < i) :
    Calls Tryd.prog 56 #[.pointer (some ⟨g, 0, none⟩), .int .i64 i] w fun e w' => e = .returned (.tuple #[.agg #[.string ⟨#[]⟩, .string ⟨#[]⟩], .iface 113 (.int .i64 5)]) ∧ Below w.heap.size w w' := by
  rcases hi with hi | hi
  · have hd : decide (i < 1) = true := by simpa using hi
    clear hi h
    go_enter Tryd.func56, Tryd.ntmps56
    go_wp2_with (go_at_call 88; refine (always_any _).mono ?_; rintro e w' ⟨rfl, rfl⟩)
    exact bodyPost_ret (v := .tuple #[.agg #[.string ⟨#[]⟩, .string ⟨#[]⟩], .iface 113 (.int .i64 5)]) (by simp [results, Tryd.results56, go_sem]) rfl ⟨rfl, ((Below.refl _ _).alloc (Nat.le_refl _) _).alloc (by simp) _⟩
  · have hd : decide (i < 1) = false := by simp; omega
    have hd2 : decide (12 + (xs.length : Int) < i) = true := by simp; omega
    have hb1 := (Below.refl w.heap.size w).alloc (Nat.le_refl _) (.cells #[.string ⟨#[]⟩, .string ⟨#[]⟩] 86)
    have hb2 := Lib.hid (hb1.alloc hb1.size (.cells (fvs alw).toArray 86))
    have hT := Lib.hid (h.below hb2.out)
    clear hi h hb1
    go_enter Tryd.func56, Tryd.ntmps56
    go_wp2_with (go_at_call 88; refine (always_any _).mono ?_; rintro e w' ⟨rfl, rfl⟩)
    go_wp2_with fail
    refine (len_any hT.out).mono ?_
    rintro e w1 ⟨rfl, hb3⟩
    obtain ⟨r0, r1, r2, r3⟩ := res_behind hb3
    have hb4 := Lib.hid (hb2.out.trans (hb3.mono hb2.out.size))
    clear hb3
    go_wp2
    exact bodyPost_ret (v := .tuple #[.agg #[.string ⟨#[]⟩, .string ⟨#[]⟩], .iface 113 (.int .i64 5)]) (by simp [results, Tryd.results56, go_sem, r0, r1]) rfl ⟨rfl, (hb4.out.setCell (p := ⟨w.heap.size, 0, none⟩) (Nat.le_refl _) _).setCell (p := ⟨w.heap.size, 1, none⟩) (Nat.le_refl _) _⟩

set_option maxRecDepth 100000 in
set_option maxHeartbeats 4000000 in
theorem get_yes {w : World} {g : Nat} {A : Option Addr} {c : Nat} {xs : List Fld} {mx : Nat} (h : Tab w g A c xs mx) (k : Nat) (hk : k < 12 + xs.length) (f : Fld) (hf : (tAll xs).getD k ([], []) = f) :
    Calls Tryd.prog 56 #[.pointer (some ⟨g, 0, none⟩), .int .i64 ((k : Int) + 1)] w fun e w' => e = .returned (.tuple #[.agg #[.string ⟨f.1.toArray⟩, .string ⟨f.2.toArray⟩], .nilIface]) ∧ Below w.heap.size w w' := by
  have hd : decide ((k : Int) + 1 < 1) = false := by simp; omega
  have hd2 : decide (12 + (xs.length : Int) < (k : Int) + 1) = false := by simp; omega
  have hcap := h.cap.2.2
  have hb1 := (Below.refl w.heap.size w).alloc (Nat.le_refl _) (.cells #[.string ⟨#[]⟩, .string ⟨#[]⟩] 86)
  have hb2 := Lib.hid (hb1.alloc hb1.size (.cells (fvs alw).toArray 86))
  have hT := Lib.hid (h.below hb2.out)
  clear hb1
  by_cases hlow : k < 12
  · have hal := alw_reads (w.alloc (.cells #[.string ⟨#[]⟩, .string ⟨#[]⟩] 86))
    have hr := hal.more (show _ ≤ ((w.alloc (.cells #[.string ⟨#[]⟩, .string ⟨#[]⟩] 86)).alloc (.cells (fvs alw).toArray 86)).heap.size by simp)
    have HR := Lib.hid hr
    rw [tAll_low hlow] at hf
    clear hal hr h
    have hl12 : ((k : Int) + 1 ≤ 12) := by omega
    go_enter Tryd.func56, Tryd.ntmps56
    go_wp2_with (go_at_call 88; refine (always_any _).mono ?_; rintro e w' ⟨rfl, rfl⟩)
    go_wp2_with fail
    refine (len_any hT.out).mono ?_
    rintro e w1 ⟨rfl, hb3⟩
    obtain ⟨r0, r1, r2, r3⟩ := res_behind hb3
    obtain ⟨b, off, he, _, hcl⟩ := reads_fld (HR.out.below hb3) (by decide)
    obtain ⟨e1, e2⟩ := hcl k hlow
    cases he
    rw [hf] at e1 e2
    simp only [World.size_alloc, Nat.zero_add] at e1 e2
    have hb4 := Lib.hid (hb2.out.trans (hb3.mono hb2.out.size))
    clear hb3 hcl hf
    go_wp2
    exact bodyPost_ret (v := .tuple #[.agg #[.string ⟨f.1.toArray⟩, .string ⟨f.2.toArray⟩], .nilIface]) (by simp [results, Tryd.results56, go_sem, r0, r1]) rfl ⟨rfl, (hb4.out.setCell (p := ⟨w.heap.size, 0, none⟩) (Nat.le_refl _) _).setCell (p := ⟨w.heap.size, 1, none⟩) (Nat.le_refl _) _⟩
  · obtain ⟨j, rfl⟩ : ∃ j, k = 12 + j := ⟨k - 12, by omega⟩
    rw [tAll_high (by omega)] at hf
    have hh := hT.out
    obtain ⟨c0, _, _⟩ := hh.cells
    obtain ⟨b, off, rfl, hbB, hcl⟩ := reads_fld (reads_own hh.own) (by omega)
    obtain ⟨e1, e2⟩ := hcl j (by omega)
    rw [hf] at e1 e2
    have hl12 : decide (((12 + j : Nat) : Int) + 1 ≤ 12) = false := by simp; omega
    have hj : ((12 + j : Nat) : Int) = 12 + (j : Int) := by omega
    rw [hj] at hd hd2 hl12 ⊢
    have hj2 : (j : Int) < (xs.length : Int) := by omega
    clear hcl hf hh h hj
    go_enter Tryd.func56, Tryd.ntmps56
    go_wp2_with (go_at_call 88; refine (always_any _).mono ?_; rintro e w' ⟨rfl, rfl⟩)
    go_wp2_with fail
    refine (len_any hT.out).mono ?_
    rintro e w1 ⟨rfl, hb3⟩
    obtain ⟨r0, r1, r2, r3⟩ := res_behind hb3
    have q0 := cell_behind hb3 c0
    have q1 := cell_behind hb3 e1
    have q2 := cell_behind hb3 e2
    have hb4 := Lib.hid (hb2.out.trans (hb3.mono hb2.out.size))
    clear hb3 c0 e1 e2
    go_wp2
    exact bodyPost_ret (v := .tuple #[.agg #[.string ⟨f.1.toArray⟩, .string ⟨f.2.toArray⟩], .nilIface]) (by simp [results, Tryd.results56, go_sem, r0, r1]) rfl ⟨rfl, (hb4.out.setCell (p := ⟨w.heap.size, 0, none⟩) (Nat.le_refl _) _).setCell (p := ⟨w.heap.size, 1, none⟩) (Nat.le_refl _) _⟩
end Go.Proofs.YtkbbkamnmdeagaaDoor
