/-
  A table behind a pointer: its words, the contracts of Len, Size, Max, New. Condition: none but what the table's own words say.
-/
import Derived.Test.YtkbbkamnmdeagaaFld
import Derived.Deep.RegionHeld3
import Derived.Deep.DrawnRows
import Derived.Deep.RegionLaw
import Derived.Deep.LoopGhost
namespace Go.Proofs.Ytkbbkamnmdeagaa
open Go.RowKit
attribute [local go_sem ↓] Go.wp_at_zero Go.wp_at_succ

/-- A table: its block, its row, what lies in it. -/
structure Tab (w : World) (g : Nat) (A : Option Addr) (c : Nat) (xs : List Fld) (mx : Nat) : Prop where
  blk : Blk w g 67 #[.slice A xs.length c, .int .i64 (wt xs : Nat), .int .i64 (mx : Nat)]
  own : w.ownsRow 0 40 2 (.slice A xs.length c) xs.length (fvs xs)
  wt : wt xs ≤ 4096
  mx : mx ≤ 4096
/-- The blocks that are a table's own. -/
def tOwn (g : Nat) (A : Option Addr) (k : Nat) : Prop := k = g ∨ ∃ a, A = some a ∧ k = a.block
/-- All but these blocks lies as it lay. -/
structure Keep (S : Nat → Prop) (w w' : World) : Prop where
  os : w'.os = w.os
  tape : w'.tape = w.tape
  output : w'.output = w.output
  size : w.heap.size ≤ w'.heap.size
  block : ∀ k, k < w.heap.size → ¬ S k → w'.heap[k]? = w.heap[k]?
section
variable {S T : Nat → Prop} {w w' w1 w2 : World}
theorem Keep.refl (S : Nat → Prop) (w : World) : Keep S w w := ⟨rfl, rfl, rfl, Nat.le_refl _, fun _ _ _ => rfl⟩
theorem Keep.of_below (h : Below w.heap.size w w') : Keep S w w' := ⟨h.os, h.tape, h.output, h.size, fun k hk _ => h.block k hk⟩
theorem Keep.trans (h : Keep S w w1) (k : Keep T w1 w2) (hT : ∀ i, T i → S i ∨ w.heap.size ≤ i) : Keep S w w2 :=
  ⟨k.os.trans h.os, k.tape.trans h.tape, k.output.trans h.output, Nat.le_trans h.size k.size, fun i hi hS =>
    (k.block i (Nat.lt_of_lt_of_le hi h.size) fun hTi => by rcases hT i hTi with h1 | h1; exact hS h1; omega).trans (h.block i hi hS)⟩
theorem Keep.mono (h : Keep S w w') (hT : ∀ i, S i → T i) : Keep T w w' := ⟨h.os, h.tape, h.output, h.size, fun i hi hS => h.block i hi fun hs => hS (hT i hs)⟩
theorem Keep.below {B : Nat} (h : Keep S w w') (hB : B ≤ w.heap.size) (hS : ∀ i, S i → B ≤ i) : Below B w w' :=
  ⟨h.os, h.tape, h.output, h.size, fun k hk => h.block k (by omega) fun hs => by have := hS k hs; omega⟩
theorem Keep.drew (h : Keep S w w') : Keep S w w'.drew := ⟨h.os, h.tape, h.output, h.size, h.block⟩
theorem Keep.drewN (h : Keep S w w') (n : Nat) : Keep S w (w'.drewN n) := ⟨h.os, h.tape, h.output, h.size, h.block⟩
theorem Keep.alloc (h : Keep S w w') (o : Obj) : Keep S w (w'.alloc o) :=
  ⟨h.os, h.tape, h.output, Nat.le_trans h.size (by simp), fun i hi hS => (Below.heap_alloc w' o i (Nat.lt_of_lt_of_le hi h.size)).trans (h.block i hi hS)⟩
theorem Keep.setCell (h : Keep S w w') {p : Addr} (hp : S p.block ∨ w.heap.size ≤ p.block) (u : Value) : Keep S w (w'.setCell p u) :=
  ⟨h.os, h.tape, h.output, by simpa [World.setCell] using h.size, fun i hi hS => (Below.heap_setCell w' p u i (by
    rintro rfl
    rcases hp with hp | hp
    · exact hS hp
    · omega)).trans (h.block i hi hS)⟩
theorem Keep.grown (h : Keep S w w1) {row : Option Nat} (hg : w1.grownBy w2 row) (hr : ∀ k, row = some k → S k ∨ w.heap.size ≤ k) : Keep S w w2 :=
  ⟨hg.os.trans h.os, hg.tape.trans h.tape, hg.output.trans h.output, Nat.le_trans h.size hg.size, fun i hi hS =>
    (hg.block i (Nat.lt_of_lt_of_le hi h.size) fun e => by rcases hr i e.symm with h1 | h1; exact hS h1; omega).trans (h.block i hi hS)⟩
theorem Blk.keep {g : Nat} {t : TypeId} {cs : Array Value} (h : Blk w g t cs) (hk : Keep S w w') (hS : ¬ S g) : Blk w' g t cs := (hk.block g h.lt hS).trans h
theorem own_keep {B size n : Nat} {e : TypeId} {A : Option Addr} {c : Nat} {xs : List Value} (h : w.ownsRow B e size (.slice A n c) n xs) (hk : Keep S w w') (hS : ∀ a, A = some a → ¬ S a.block) : w'.ownsRow B e size (.slice A n c) n xs := by
  refine ⟨h.1, ?_⟩
  rcases h.2 with h0 | ⟨g, cap, cur, hv, hB, hh, hr⟩
  · exact .inl h0
  · refine .inr ⟨g, cap, cur, hv, hB, ?_, hr⟩
    injection hv with hA
    exact (hk.block g (Blk.lt (t := e) (cs := cur) hh) (hS _ hA)).trans hh
end
theorem own_cut {w : World} {B size n k : Nat} {e : TypeId} {A : Option Addr} {c : Nat} {xs : List Value} (h : w.ownsRow B e size (.slice A n c) n xs) (hk : k < n) : w.ownsRow B e size (.slice A k c) k (xs.take (k * size)) := by
  have hm : k * size ≤ n * size := Nat.mul_le_mul_right _ (by omega)
  refine ⟨by rw [List.length_take, h.1]; omega, ?_⟩
  rcases h.2 with ⟨_, h0⟩ | ⟨g, cap, cur, hv, hB, hh, hc, hcm, hs, hx⟩
  · omega
  · injection hv with hA _ hcc
    subst hcc
    refine .inr ⟨g, c, cur, by rw [hA], hB, hh, by omega, hcm, hs, ?_⟩
    rw [← hx, List.take_take, Nat.min_eq_left hm]
theorem reads_own {w : World} {B size n : Nat} {e : TypeId} {A : Option Addr} {c : Nat} {xs : List Value} (h : w.ownsRow B e size (.slice A n c) n xs) : Reads w w.heap.size size A n xs := Reads.of_own h
section
variable {w w' : World} {g : Nat} {A : Option Addr} {c : Nat} {xs : List Fld} {mx : Nat} {S : Nat → Prop}
theorem Tab.keep (h : Tab w g A c xs mx) (hk : Keep S w w') (hS : ∀ k, tOwn g A k → ¬ S k) : Tab w' g A c xs mx :=
  ⟨h.blk.keep hk (hS g (.inl rfl)), own_keep h.own hk fun a ha => hS _ (.inr ⟨a, ha, rfl⟩), h.wt, h.mx⟩
theorem Tab.below (h : Tab w g A c xs mx) (hb : Below w.heap.size w w') : Tab w' g A c xs mx := h.keep (S := fun _ => False) (Keep.of_below hb) fun _ _ h => h
theorem Tab.cells (h : Tab w g A c xs mx) : w.cell? ⟨g, 0, none⟩ = some (.slice A xs.length c) ∧ w.cell? ⟨g, 1, none⟩ = some (.int .i64 (Go.Proofs.Ytkbbkamnmdeagaa.wt xs : Nat)) ∧ w.cell? ⟨g, 2, none⟩ = some (.int .i64 (mx : Nat)) :=
  ⟨h.blk.cell 0, h.blk.cell 1, h.blk.cell 2⟩
theorem Tab.cap (h : Tab w g A c xs mx) : xs.length ≤ c ∧ c ≤ maxLen ∧ xs.length ≤ 128 := by
  have h1 := wt_len xs
  have h2 := h.wt
  have h3 := h.mx
  rcases h.own.2 with ⟨he, h0⟩ | ⟨_, cap, cur, he, _, _, hc, hm, _⟩
  · injection he with _ _ hc
    omega
  · injection he with _ _ hc
    subst hc
    exact ⟨hc, hm, by omega⟩
theorem Tab.lt (h : Tab w g A c xs mx) : ∀ k, tOwn g A k → k < w.heap.size := by
  rintro k (rfl | ⟨a, rfl, rfl⟩)
  · exact h.blk.lt
  · exact (h.own.lt _ rfl).2
end

theorem cell_behind {w w1 : World} (hb : Below w.heap.size w w1) {p : Addr} {v : Value} (h : w.cell? p = some v) : w1.cell? p = some v := (hb.cell (World.block_lt_of_cell? w p h)).trans h
theorem frozen_behind {w w1 : World} (hb : Below w.heap.size w w1) {b o : Nat} {z : Bool} (hlt : b < w.heap.size) (h : w.frozen? ⟨b, o, none⟩ = z) : w1.frozen? ⟨b, o, none⟩ = z := (hb.frozen (p := ⟨b, o, none⟩) hlt).trans h

theorem cell_drew {w w1 : World} (hb : Below w.drew.heap.size w.drew w1) {p : Addr} {v : Value} (h : w.cell? p = some v) : w1.cell? p = some v := cell_behind hb h
theorem frozen_drew {w w1 : World} (hb : Below w.drew.heap.size w.drew w1) {b o : Nat} {z : Bool} (hlt : b < w.heap.size) (h : w.frozen? ⟨b, o, none⟩ = z) : w1.frozen? ⟨b, o, none⟩ = z := frozen_behind hb hlt h

set_option maxHeartbeats 1000000 in
theorem len_any {w : World} {g : Nat} {A : Option Addr} {c : Nat} {xs : List Fld} {mx : Nat} (h : Tab w g A c xs mx) :
    Calls Try.prog 16 #[.pointer (some ⟨g, 0, none⟩)] w fun e w' => e = .returned (.int .i64 ((12 + xs.length : Nat) : Int)) ∧ Below w.heap.size w w' := by
  obtain ⟨c0, _, _⟩ := h.cells
  obtain ⟨_, _, hl⟩ := h.cap
  have hg := h.blk.lt
  clear h
  go_enter Try.func16, Try.ntmps16
  go_wp2
  go_region_held3 (fun w' => w'.cell? ⟨g, 0, none⟩ = some (.slice A xs.length c)) (go_keep) (first | (go_at_call 30; refine (always_any _).mono ?_; rintro e w' ⟨rfl, rfl⟩))
  all_goals
    go_wp2
    go_ret
    refine ⟨?_, (((Below.refl _ _).alloc (Nat.le_refl _) _)).drew⟩
    rw [IntKind.wrap_i64]
    simp
    omega
set_option maxHeartbeats 1000000 in
theorem tsize_any {w : World} {g : Nat} {A : Option Addr} {c : Nat} {xs : List Fld} {mx : Nat} (h : Tab w g A c xs mx) :
    Calls Try.prog 14 #[.pointer (some ⟨g, 0, none⟩)] w fun e w' => e = .returned (.int .i64 ((wt xs : Nat) : Int)) ∧ w = w' := by
  obtain ⟨_, c1, _⟩ := h.cells
  clear h
  go_enter Try.func14, Try.ntmps14
  go_wp2
  go_ret
  exact ⟨rfl, rfl⟩
set_option maxHeartbeats 1000000 in
theorem right_yes (m : Int) (h0 : 0 ≤ m) (h : m ≤ 4096) (w : World) :
    Calls Try.prog 26 #[.int .i64 m] w fun e w' => e = .returned (.bool true) ∧ w = w' := by
  go_enter Try.func26, Try.ntmps26
  go_wp2
  go_ret
  refine ⟨?_, rfl⟩
  simp [h]
set_option maxHeartbeats 1000000 in
theorem right_no (m : Int) (h : m < 0 ∨ 4096 < m) (w : World) :
    Calls Try.prog 26 #[.int .i64 m] w fun e w' => e = .returned (.bool false) ∧ w = w' := by
  rcases h with h | h
  · go_enter Try.func26, Try.ntmps26
    go_wp2
    go_ret
    exact ⟨rfl, rfl⟩
  · have h0 : 0 ≤ m := by omega
    have h1 : decide (m ≤ 4096) = false := by simp; omega
    go_enter Try.func26, Try.ntmps26
    go_wp2
    go_ret
    exact ⟨by simp, rfl⟩
set_option maxHeartbeats 1000000 in
theorem new_no (m : Int) (h : m < 0 ∨ 4096 < m) (w : World) :
    Calls Try.prog 11 #[.int .i64 m] w fun e w' => e = .returned (.tuple #[.pointer none, .iface 23 (.int .i64 1)]) ∧ w = w' := by
  have H := Lib.hid h
  clear h
  go_enter Try.func11, Try.ntmps11
  go_wp2_with (go_at_call 26; refine (right_no _ H.out _).mono ?_; rintro e w' ⟨rfl, rfl⟩)
  go_ret2
  exact ⟨rfl, rfl⟩
set_option maxHeartbeats 1000000 in
theorem new_yes (m : Nat) (h : m ≤ 4096) (w : World) :
    Calls Try.prog 11 #[.int .i64 (m : Int)] w fun e w' => e = .returned (.tuple #[.pointer (some ⟨w.heap.size, 0, none⟩), .nilIface]) ∧ Tab w' w.heap.size none 0 [] m ∧ Below w.heap.size w w' ∧ w'.heap.size = w.heap.size + 1 := by
  go_enter Try.func11, Try.ntmps11
  go_wp2_with (go_at_call 26; refine (right_yes _ (by omega) (by omega) _).mono ?_; rintro e w' ⟨rfl, rfl⟩)
  go_ret2
  refine ⟨rfl, ⟨Blk.new _ _ _, World.ownsRow_nil _ _ _ _, by simp [wt], h⟩, (Below.refl _ _).alloc (Nat.le_refl _) _, by simp⟩

theorem wt_take_mono' (xs : List Fld) (n : Nat) : wt (xs.take n) ≤ wt (xs.take (n + 1)) := by
  have h1 := wt_take_le (xs.take (n + 1)) n
  rwa [List.take_take, Nat.min_eq_left (by omega)] at h1
theorem own_setT {w : World} {B size n : Nat} {e : TypeId} {A : Option Addr} {c : Nat} {xs : List Value} (h : w.ownsRow B e size (.slice A n c) n xs) {p : Addr} (hp : ∀ a, A = some a → a.block ≠ p.block) (u : Value) : (w.setCell p u).ownsRow B e size (.slice A n c) n xs := by
  refine ⟨h.1, ?_⟩
  rcases h.2 with h0 | ⟨g, cap, cur, hv, hB, hh, hr⟩
  · exact .inl h0
  · refine .inr ⟨g, cap, cur, hv, hB, ?_, hr⟩
    injection hv with hA
    exact (Below.heap_setCell w p u g (hp _ hA)).trans hh
theorem tab_ne {w : World} {g : Nat} {A : Option Addr} {c : Nat} {xs : List Fld} {mx : Nat} (h : Tab w g A c xs mx) : ∀ a, A = some a → a.block ≠ g := by
  intro a ha he
  have := own_blk_ne h.own h.blk (by decide)
  rw [ha] at this
  exact this (by simp [Value.ownBlock, he])
theorem shr_step {w wr w1 : World} {g : Nat} {A : Option Addr} {c : Nat} {xs : List Fld} {mx n : Nat} (h : Tab wr g A c (xs.take (n + 1)) mx) (hn : n + 1 ≤ xs.length) (hb : Below wr.drew.heap.size wr.drew w1) (hk : Keep (tOwn g A) w wr) :
    Tab ((w1.setCell ⟨g, 1, none⟩ (.int .i64 ((wt (xs.take n) : Nat) : Int))).setCell ⟨g, 0, none⟩ (.slice A n c)) g A c (xs.take n) mx ∧
      Keep (tOwn g A) w ((w1.setCell ⟨g, 1, none⟩ (.int .i64 ((wt (xs.take n) : Nat) : Int))).setCell ⟨g, 0, none⟩ (.slice A n c)) := by
  have hlen : (xs.take n).length = n := by simp; omega
  have hlen1 : (xs.take (n + 1)).length = n + 1 := by simp; omega
  have hlt : g < wr.heap.size := h.blk.lt
  have hb' : Below wr.heap.size wr w1 := ⟨hb.os, hb.tape, hb.output, hb.size, hb.block⟩
  have h1 := h.below hb'
  have hne := tab_ne h
  constructor
  · refine ⟨?_, ?_, ?_, h.mx⟩
    · have := ((h1.blk.set_ 1 (.int .i64 ((wt (xs.take n) : Nat) : Int))).set_ 0 (.slice A n c))
      rw [hlen]
      simpa using this
    · have ho := h1.own
      rw [hlen1] at ho
      have h2 := own_cut ho (show n < n + 1 by omega)
      rw [fvs_take, List.take_take, Nat.min_eq_left (by omega)] at h2
      rw [hlen]
      exact own_setT (own_setT h2 hne _) hne _
    · have h3 := wt_take_mono' xs n
      have h4 := h.wt
      omega
  · have k1 : Keep (tOwn g A) wr w1 := Keep.of_below hb'
    exact ((hk.trans k1 fun i hi => .inl hi).setCell (.inl (.inl rfl)) _).setCell (.inl (.inl rfl)) _

set_option maxRecDepth 100000 in
set_option maxHeartbeats 4000000 in
theorem shrink_any {w : World} {g : Nat} {A : Option Addr} {c : Nat} {xs : List Fld} {mx : Nat} (h : Tab w g A c xs mx) (most : Nat) (hmo : most ≤ 4096) :
    Calls Try.prog 28 #[.pointer (some ⟨g, 0, none⟩), .int .i64 (most : Int)] w fun e w' => e = .returned (.tuple #[]) ∧ Tab w' g A c (shr most xs) mx ∧ Keep (tOwn g A) w w' := by
  obtain ⟨hcap, hcm, hl⟩ := h.cap
  unfold maxLen at hcm
  have hmx := h.mx
  go_enter Try.func28, Try.ntmps28
  go_wp2
  go_loopg [4] xs.length (fun n _ wr => n ≤ xs.length ∧ Hid (shrN most xs n = shrN most xs xs.length) ∧ Hid (Tab wr g A c (xs.take n) mx) ∧ Hid (Keep (tOwn g A) w wr))
  case atStart => exact ⟨Nat.le_refl _, rfl, by rw [List.take_of_length_le (Nat.le_refl _)]; exact h, Keep.refl _ _⟩
  case round =>
    obtain ⟨hn, H1, H2, H3⟩ := hrel
    have hlen : (xs.take gk).length = gk := by simp; omega
    have hT := H2.out
    obtain ⟨c0, c1, c2⟩ := hT.cells
    have hw4 := hT.wt
    have f0 := hT.blk.frozen 0
    have f1 := hT.blk.frozen 1
    have hg := hT.blk.lt
    have hown := hT.own
    rw [hlen] at c0 hown
    by_cases hgo : wt (xs.take gk) ≤ most
    · have hN : shrN most xs gk = gk := shrN_stay hgo
      have hd : decide ((most : Int) < ((wt (xs.take gk) : Nat) : Int)) = false := by simp; omega
      clear hT hown hlen
      generalize wt (xs.take gk) = W at *
      go_wp2
      go_end0
      have e : shr most xs = xs.take gk := by unfold shr; rw [← H1.out, hN]
      rw [e]
      exact ⟨rfl, H2.out, H3.out⟩
    · obtain ⟨n, rfl⟩ : ∃ n, gk = n + 1 := ⟨gk - 1, by
        have : gk ≠ 0 := by rintro rfl; simp [wt] at hgo
        omega⟩
      have hN : shrN most xs (n + 1) = shrN most xs n := shrN_go hgo
      have hws := wt_take_succ xs n (by omega)
      have hfs := fsz_pos xs[n]
      have hr := reads_own hown
      have hr' : Reads wr wr.heap.size 2 A (xs.take (n + 1)).length (fvs (xs.take (n + 1))) := by rw [hlen]; exact hr
      obtain ⟨rb, ro, hA, hrb, hcl⟩ := reads_fld hr' (by omega)
      obtain ⟨e1, e2⟩ := hcl n (by omega)
      have hget : (xs.take (n + 1))[n]'(by omega) = xs[n] := by simp
      rw [hget] at e1 e2
      have hne : rb ≠ g := by
        have := own_blk_ne hown hT.blk (by decide)
        rw [hA] at this
        simpa [Value.ownBlock] using this
      have hsz : fsz xs[n] ≤ 4096 := by omega
      generalize hf : xs[n] = f at *
      have hfok : fOk f := by
        unfold fsz at hsz
        constructor <;> omega
      have HD := Lib.hid hN
      have HO := Lib.hid hown
      have hwr : IntKind.i64.wrap (((wt (xs.take (n + 1)) : Nat) : Int) - ((fsz f : Nat) : Int)) = ((wt (xs.take n) : Nat) : Int) := by
        rw [IntKind.wrap_i64]
        omega
      have HS := Lib.hid (fun (w1 : World) (hb : Below wr.drew.heap.size wr.drew w1) => shr_step (w := w) H2.out hn hb H3.out)
      have hd : decide ((most : Int) < ((wt (xs.take (n + 1)) : Nat) : Int)) = true := by simp; omega
      clear hr hr' hcl hget hlen hT hown hf hN hws
      subst hA
      generalize wt (xs.take (n + 1)) = W at *
      generalize wt (xs.take n) = W0 at *
      have i0 : (0 : Int) ≤ (n : Int) := by omega
      have i1 : (n : Int) < (n : Int) + 1 := by omega
      go_wp2
      go_region_law? (first | (go_simp; go_at_call 27; refine (size_any f hfok _).mono ?_; rintro e w1 ⟨rfl, hb⟩; have b1 := cell_drew hb c1; have b0 := cell_drew hb c0; have g1 := frozen_drew hb hg f1; have g0 := frozen_drew hb hg f0))
      all_goals
        go_wp2
        go_roundg n
        case measure => omega
        case rel => exact ⟨by omega, HD.out.symm.trans H1.out, (HS.out _ hb).1, (HS.out _ hb).2⟩
end Go.Proofs.Ytkbbkamnmdeagaa
