/-
  The reference's coder for what goes out: its words; New, Resize. Condition: none but what the words say.
-/
import Derived.Test.YtkbbkamnmdeagaaDoorMHeadPlays14
import Derived.Test.YtkbbkamnmdeagaaDoorMHeadPlays09
import Derived.Deep.CutRange
namespace Go.Proofs.YtkbbkamnmdeagaaDoor
open Go.RowKit
attribute [local go_sem ↓] Go.wp_at_zero Go.wp_at_succ

theorem CTab.keep {S : Nat → Prop} {w w1 : World} {g c mx o : Nat} {t : TypeId} {cs : Array Value} {A : Option Addr} {xs : List Fld} (h : CTab w g t cs o A c xs mx) (hk : Keep S w w1) (hq : ¬ S g) (hB : ∀ x, A = some x → ¬ S x.block) : CTab w1 g t cs o A c xs mx := by
  refine ⟨h.blk.keep hk hq, h.nos, h.sl, h.ml, h.cap, ⟨h.reads.1, fun h0 => ?_⟩, h.wt, h.mx, h.ok⟩
  obtain ⟨ad, hA, hb, hc⟩ := h.reads.2 h0
  refine ⟨ad, hA, Nat.lt_of_lt_of_le hb hk.size, fun j u hu => ?_⟩
  rw [← hc j u hu]
  refine World.cell?_of_block (hk.block _ (by rw [block_of_add]; exact hb) ?_)
  rw [block_of_add]
  exact hB ad hA
theorem nos_put {cs : Array Value} (hs : ∀ (i : Nat) (s : ByteArray), cs[i]? ≠ some (.string s)) (o : Nat) (u : Value) (hu : ∀ s, u ≠ .string s) : ∀ (i : Nat) (s : ByteArray), (cs.setIfInBounds o u)[i]? ≠ some (.string s) := by
  intro i s
  rw [Array.getElem?_setIfInBounds]
  split
  · split
    · intro h
      cases h
      exact hu s rfl
    · intro h; cases h
  · exact hs i s
/-- Another cell of the block is set. -/
theorem CTab.put {w : World} {g c mx o : Nat} {t : TypeId} {cs : Array Value} {A : Option Addr} {xs : List Fld} (h : CTab w g t cs o A c xs mx) (j : Nat) (u : Value) (h1 : j ≠ o) (h2 : j ≠ o + 1) (hu : ∀ s, u ≠ .string s) : CTab (w.setCell ⟨g, j, none⟩ u) g t (cs.setIfInBounds j u) o A c xs mx := by
  refine ⟨h.blk.set_ j _, nos_put h.nos _ _ hu, ?_, ?_, h.cap, ?_, h.wt, h.mx, h.ok⟩
  · rw [Array.getElem?_setIfInBounds, if_neg h1]
    exact h.sl
  · rw [Array.getElem?_setIfInBounds, if_neg h2]
    exact h.ml
  · have := reads_set (g := g) h.reads (fun h0 => reads_neC h.reads h.blk h.nos h0) j u
    simpa using this
theorem CTab.putMx {w : World} {g c mx o : Nat} {t : TypeId} {cs : Array Value} {A : Option Addr} {xs : List Fld} (h : CTab w g t cs o A c xs mx) (m : Nat) (hm : m ≤ 4096) : CTab (w.setCell ⟨g, o + 1, none⟩ (.int .i64 (m : Int))) g t (cs.setIfInBounds (o + 1) (.int .i64 (m : Int))) o A c xs m := by
  refine ⟨h.blk.set_ _ _, nos_put h.nos _ _ (fun s e => by cases e), ?_, ?_, h.cap, ?_, h.wt, hm, h.ok⟩
  · rw [Array.getElem?_setIfInBounds, if_neg (by omega)]
    exact h.sl
  · exact (set_at h.ml _).1
  · have := reads_set (g := g) h.reads (fun h0 => reads_neC h.reads h.blk h.nos h0) (o + 1) (.int .i64 (m : Int))
    simpa using this

/-- The reference's coder's cells, while it says: nothing has come yet. -/
def rcs (A : Option Addr) (n c mx max : Nat) (Sv : Value) : Array Value := #[.slice A n c, .int .i64 ((mx : Nat) : Int), .slice none 0 0, .int .i64 ((max : Nat) : Int), .int .i64 ((max : Nat) : Int), Sv, .bool false]
structure ROut (w : World) (M : Nat) (A : Option Addr) (c : Nat) (Sv : Value) (xs : List Fld) (mx : Nat) (ps : List Nat) (max : Nat) : Prop where
  tab : CTab w M 136 (rcs A xs.length c mx max Sv) 0 A c xs mx
  row : w.ownsRow 0 3 1 Sv ps.length (szs ps)
  da : ∀ a, A = some a → Sv.ownBlock ≠ some a.block ∧ a.block < w.heap.size
def rOwn (M : Nat) (Sv : Value) (k : Nat) : Prop := k = M ∨ Sv.ownBlock = some k
section
variable {w w' : World} {M c mx max : Nat} {A : Option Addr} {Sv : Value} {xs : List Fld} {ps : List Nat} {S : Nat → Prop}
theorem ROut.keep (H : ROut w M A c Sv xs mx ps max) (hk : Keep S w w') (hS : ∀ k, rOwn M Sv k → ¬ S k) (hA : ∀ a, A = some a → ¬ S a.block) : ROut w' M A c Sv xs mx ps max :=
  ⟨H.tab.keep hk (hS M (.inl rfl)) hA, ownRow_keep H.row hk fun k h => hS k (.inr h), fun a ha => ⟨(H.da a ha).1, Nat.lt_of_lt_of_le (H.da a ha).2 hk.size⟩⟩
theorem ROut.below (H : ROut w M A c Sv xs mx ps max) (hb : Below w.heap.size w w') : ROut w' M A c Sv xs mx ps max := H.keep (S := fun _ => False) (Keep.of_below hb) (fun _ _ h => h) fun _ _ h => h
theorem ROut.lt (H : ROut w M A c Sv xs mx ps max) : ∀ k, rOwn M Sv k → k < w.heap.size := by
  rintro k (rfl | hk)
  · exact H.tab.blk.lt
  · exact (H.row.lt k hk).2
theorem ROut.ne (H : ROut w M A c Sv xs mx ps max) : Sv.ownBlock ≠ some M := own_blk_ne H.row H.tab.blk (by decide)
theorem ROut.cells (H : ROut w M A c Sv xs mx ps max) : w.cell? ⟨M, 0, none⟩ = some (.slice A xs.length c) ∧ w.cell? ⟨M, 1, none⟩ = some (.int .i64 ((mx : Nat) : Int)) ∧ w.cell? ⟨M, 5, none⟩ = some Sv ∧ (∀ j, w.frozen? ⟨M, j, none⟩ = false) ∧ M < w.heap.size :=
  ⟨H.tab.blk.cell 0, H.tab.blk.cell 1, H.tab.blk.cell 5, fun j => H.tab.blk.frozen j, H.tab.blk.lt⟩
end

set_option maxRecDepth 100000 in
set_option maxHeartbeats 2000000 in
theorem rnewC_any (m : Nat) (hm : m ≤ 4096) (w : World) :
    Calls Tryd.prog 58 #[.int .i64 (m : Int)] w fun e w' => e = .returned (.pointer (some ⟨w.heap.size, 0, none⟩)) ∧ ROut w' w.heap.size none 0 (.slice none 0 0) [] m [] m ∧ Below w.heap.size w w' := by
  have hblk := Blk.new w 136 (rcs none 0 0 m m (.slice none 0 0))
  have HBLK := Lib.hid hblk
  clear hblk
  go_enter Tryd.func58, Tryd.ntmps58
  go_wp2
  go_ret
  refine ⟨rfl, ⟨⟨HBLK.out, ?_, rfl, rfl, Nat.le_refl _, Reads.none_, Nat.zero_le _, hm, by simp⟩, World.ownsRow_nil _ _ _ _, fun a h => by cases h⟩, (Below.refl _ _).alloc (Nat.le_refl _) _⟩
  intro i s
  unfold rcs
  rcases i with _ | _ | _ | _ | _ | _ | _ | i <;> simp

theorem rres_end {w w1 w2 : World} {M c p max : Nat} {A : Option Addr} {Sv v2 : Value} {ys : List Fld} {ps : List Nat} (hN : Sv.ownBlock ≠ some M) (hr : w1.ownsRow 0 3 1 Sv ps.length (szs ps)) (hk1 : But M w w1) (h1 : CTab w1 M 136 (rcs A ys.length c p max Sv) 0 A c ys p) (hda : ∀ a, A = some a → Sv.ownBlock ≠ some a.block ∧ a.block < w1.heap.size) (o : Obj)
    (hown2 : w2.ownsRow 0 3 1 v2 (ps.length + 1) (szs ps ++ [.int .i64 ((p : Nat) : Int)])) (hg2 : (w1.alloc o).grownBy w2 Sv.ownBlock) (hv : v2.ownBlock = Sv.ownBlock ∨ v2.ownBlock = some (w1.alloc o).heap.size) :
    (ROut (w2.setCell ⟨M, 5, none⟩ v2) M A c v2 ys p (ps ++ [p]) max ∧ Keep (rOwn M Sv) w (w2.setCell ⟨M, 5, none⟩ v2) ∧ ∀ k, rOwn M v2 k → rOwn M Sv k ∨ w.heap.size ≤ k) ∧ w2.cell? ⟨M, 5, none⟩ = some Sv ∧ w2.frozen? ⟨M, 5, none⟩ = false ∧ M < w2.heap.size := by
  have hba : Below w1.heap.size w1 (w1.alloc o) := (Below.refl _ _).alloc (Nat.le_refl _) _
  have k1 : Keep (fun k => Sv.ownBlock = some k) w1 w2 := (Keep.of_below (S := fun k => Sv.ownBlock = some k) hba).grown hg2 fun k hk => .inl hk
  have h2 := h1.keep k1 hN fun a ha => (hda a ha).1
  have k3 : Keep (fun k => k = M) w2 (w2.setCell ⟨M, 5, none⟩ v2) := (Keep.refl (fun k => k = M) w2).setCell (p := ⟨M, 5, none⟩) (.inl rfl) v2
  have hfresh : ∀ k, v2.ownBlock = some k → Sv.ownBlock = some k ∨ w1.heap.size ≤ k := by
    intro k hk
    rcases hv with h | h
    · exact .inl (by rw [← h]; exact hk)
    · rw [h] at hk
      cases hk
      exact .inr (by simp)
  have hne2 : v2.ownBlock ≠ some M := fun e => by
    rcases hfresh M e with h | h
    · exact hN h
    · have := h1.blk.lt
      omega
  obtain ⟨A2, c2, hv2⟩ := own_slice hown2
  have h3 := h2.put 5 v2 (by omega) (by omega) (fun s e => by rw [hv2] at e; cases e)
  have hsz : w1.heap.size ≤ w2.heap.size := k1.size
  refine ⟨⟨⟨h3, ?_, fun a ha => ⟨fun e => ?_, ?_⟩⟩, ((hk1.mono (T := rOwn M Sv) (fun i hi => .inl hi)).trans k1 (fun i hi => .inl (.inr hi))).trans k3 (fun i hi => .inl (.inl hi)), ?_⟩, h2.blk.cell 5, h2.blk.frozen 5, h2.blk.lt⟩
  · have e1 : szs (ps ++ [p]) = szs ps ++ [.int .i64 ((p : Nat) : Int)] := by rw [szs_append]; rfl
    rw [e1, List.length_append]
    exact ownRow_keep hown2 k3 fun k hk he => hne2 (he ▸ hk)
  · rcases hfresh _ e with h | h
    · exact (hda a ha).1 h
    · have := (hda a ha).2
      omega
  · have := (hda a ha).2
    simp only [World.size_setCell]
    omega
  · rintro k (rfl | hk)
    · exact .inl (.inl rfl)
    · rcases hfresh k hk with h | h
      · exact .inl (.inr h)
      · exact .inr (Nat.le_trans hk1.size h)

set_option maxRecDepth 100000 in
set_option maxHeartbeats 2000000 in
theorem rresC_any {w : World} {M c mx max : Nat} {A : Option Addr} {Sv : Value} {xs : List Fld} {ps : List Nat} (H : ROut w M A c Sv xs mx ps max) (p : Nat) (hp : p ≤ 4096) (hl : ps.length ≤ 1000000) :
    Calls Tryd.prog 59 #[.pointer (some ⟨M, 0, none⟩), .int .i64 (p : Int)] w fun e w' => e = .returned (.tuple #[]) ∧ ∃ Sv', ROut w' M A c Sv' (shr p xs) p (ps ++ [p]) max ∧ Keep (rOwn M Sv) w w' ∧ ∀ k, rOwn M Sv' k → rOwn M Sv k ∨ w.heap.size ≤ k := by
  obtain ⟨i0, hi, hz0, hz1, hz2⟩ := info_parts int_info
  have HI := Lib.hid hi
  have HZ0 := Lib.hid hz0
  have HZ1 := Lib.hid hz1
  have HZ2 := Lib.hid hz2
  have HN := Lib.hid H.ne
  obtain ⟨c0, c1, c5, ff, fl⟩ := H.cells
  have f1 := ff 1
  have ht := H.tab.putMx p hp
  have HK0 := Lib.hid (show But M w (w.setCell ⟨M, 1, none⟩ (.int .i64 (p : Int))) from (Keep.refl (fun k => k = M) w).setCell (p := ⟨M, 1, none⟩) (.inl rfl) _)
  have HT := Lib.hid (show CTab (w.setCell ⟨M, 1, none⟩ (.int .i64 (p : Int))) M 136 (rcs A xs.length c p max Sv) 0 A c xs p from ht)
  have HH := Lib.hid H
  clear hi hz0 hz1 hz2 ht H ff
  go_enter Tryd.func59, Tryd.ntmps59
  go_upto_region 1 with fail
  obtain ⟨W, hW⟩ : ∃ W, w.setCell ⟨M, 1, none⟩ (.int .i64 (p : Int)) = W := ⟨_, rfl⟩
  rw [hW]
  have HT := Lib.hid (show CTab W M 136 (rcs A xs.length c p max Sv) 0 A c xs p by rw [← hW]; exact HT.out)
  have HK0 := Lib.hid (show But M w W by rw [← hW]; exact HK0.out)
  clear hW c0 c1 c5 f1 fl
  go_wp2_with fail
  refine (cshrink_any HT.out p hp).mono ?_
  rintro e w1 ⟨rfl, h1, hk1⟩
  have h1' : CTab w1 M 136 (rcs A (shr p xs).length c p max Sv) 0 A c (shr p xs) p := h1
  have c5 : w1.cell? ⟨M, 5, none⟩ = some Sv := h1'.blk.cell 5
  have f5 := h1'.blk.frozen 5
  have hlt := h1'.blk.lt
  have hkk : But M w w1 := HK0.out.nx hk1
  have hr1 := ownRow_keep HH.out.row hkk fun k hk he => HN.out (he ▸ hk)
  have HR1 := Lib.hid hr1
  have HRA := Lib.hid (show (w1.alloc (.cells #[.int .i64 ((p : Nat) : Int)] 3)).ownsRow 0 3 1 Sv ps.length (szs ps) from hr1.alloc _)
  have H1 := Lib.hid h1'
  have HKK := Lib.hid hkk
  have HDA := Lib.hid (show ∀ a, A = some a → Sv.ownBlock ≠ some a.block ∧ a.block < w1.heap.size from fun a ha => ⟨(HH.out.da a ha).1, Nat.lt_of_lt_of_le (HH.out.da a ha).2 hkk.size⟩)
  clear h1 h1' hk1 hr1 hkk
  go_wp2_with (at_builtin; refine wpList_append_any _ rfl _ _ 84 rfl 0 3 i0 (.int .i64 0) 1 8 Tryd.underlying84 HI.out HZ0.out HZ1.out HZ2.out rfl (by decide) _ _ _ rfl HRA.out _ (some ⟨w1.heap.size, 0, none⟩) 1 1 [.int .i64 ((p : Nat) : Int)] rfl ⟨rfl, fun _ => ⟨_, rfl, by simp; exact Nat.lt_succ_self _, cell_one_new _ _ _⟩⟩ (by simp [Value.oneCell']) (by unfold maxLen; omega) (by omega) (Nat.zero_le _) ?_; intro v2 w2 hown2 hg2 hv2; obtain ⟨A2, c2, rfl⟩ := own_slice hown2; have hend := rres_end HN.out HR1.out HKK.out H1.out HDA.out _ hown2 hg2 hv2; have c5 := hend.2.1; have f5 := hend.2.2.1; have hlt := hend.2.2.2; have HEND := Lib.hid hend.1; clear hend)
  go_end0
  exact ⟨rfl, _, HEND.out⟩
end Go.Proofs.YtkbbkamnmdeagaaDoor
