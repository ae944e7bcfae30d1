/-
  A coder for what goes out, the other cells of its block being named: New, Resize, the words of Encode's loop. Condition: none but what the words say.
-/
import Derived.Test.YtkbbkamnmdeagaaDoorHenc2
namespace Go.Proofs.YtkbbkamnmdeagaaDoor
open Go.RowKit
attribute [local go_sem ↓] Go.wp_at_zero Go.wp_at_succ
variable {qq : Value × Value × Value}

/-- A coder for what goes out: its block, its table, its sizes. -/
structure DOut (w : World) (C g : Nat) (A : Option Addr) (c : Nat) (Sv : Value) (xs : List Fld) (mx : Nat) (ps : List Nat) (qq : Value × Value × Value) : Prop where
  blk : Blk w C 134 #[.pointer (some ⟨g, 0, none⟩), qq.1, qq.2.1, Sv, qq.2.2]
  tab : Tab w g A c xs mx
  row : w.ownsRow 0 3 1 Sv ps.length (szs ps)
section
variable {w w' : World} {C g h : Nat} {A : Option Addr} {c : Nat} {Sv : Value} {xs ys : List Fld} {mx my most : Nat} {ps : List Nat} {bad : Bool} {S : Nat → Prop}
theorem DOut.keep (H : DOut w C g A c Sv xs mx ps qq) (hk : Keep S w w') (hS : ∀ k, oOwn C g A Sv k → ¬ S k) : DOut w' C g A c Sv xs mx ps qq := by
  obtain ⟨hb, ht, hr⟩ := H
  exact ⟨hb.keep hk (hS C (.inl rfl)), ht.keep hk fun k h => hS k (.inr (.inl h)), ownRow_keep hr hk fun k h => hS k (.inr (.inr h))⟩
theorem DOut.below (H : DOut w C g A c Sv xs mx ps qq) (hb : Below w.heap.size w w') : DOut w' C g A c Sv xs mx ps qq := H.keep (S := fun _ => False) (Keep.of_below hb) fun _ _ h => h
theorem DOut.lt (H : DOut w C g A c Sv xs mx ps qq) : ∀ k, oOwn C g A Sv k → k < w.heap.size := by
  obtain ⟨hb, ht, hr⟩ := H
  rintro k (rfl | hk | hk)
  · exact hb.lt
  · exact ht.lt k hk
  · exact (hr.lt k hk).2
/-- The coder's own block is none of the table's, none of the row's. -/
theorem DOut.ne (H : DOut w C g A c Sv xs mx ps qq) : ¬ tOwn g A C ∧ Sv.ownBlock ≠ some C ∧ ∀ k, Sv.ownBlock = some k → ¬ tOwn g A k := by
  obtain ⟨hb, ht, hr⟩ := H
  have h1 : ¬ tOwn g A C := by
    rintro (rfl | ⟨a, ha, he⟩)
    · exact Blk.ne_ hb ht.blk (by decide) rfl
    · have := own_blk_ne ht.own hb (by decide)
      rw [ha] at this
      exact this (by simp [Value.ownBlock, he])
  refine ⟨h1, own_blk_ne hr hb (by decide), fun k hk => ?_⟩
  rcases hr.2 with ⟨rfl, _⟩ | ⟨q, cap, cur, rfl, _, hq, _⟩
  · simp [Value.ownBlock] at hk
  · have e : q = k := by simpa [Value.ownBlock] using hk
    subst e
    have hqb : Blk w q 3 cur := hq
    rintro (rfl | ⟨a, ha, he⟩)
    · exact Blk.ne_ hqb ht.blk (by decide) rfl
    · have := own_blk_ne ht.own hqb (by decide)
      rw [ha] at this
      exact this (by simp [Value.ownBlock, he])
end
/-- What a call leaves of a coder for what goes out. -/
def DOutDone (w w' : World) (C g : Nat) (A : Option Addr) (Sv : Value) (xs' : List Fld) (mx' : Nat) (ps' : List Nat) (qq : Value × Value × Value) : Prop :=
  ∃ A' c' Sv', DOut w' C g A' c' Sv' xs' mx' ps' qq ∧ Keep (oOwn C g A Sv) w w' ∧ ∀ k, oOwn C g A' Sv' k → oOwn C g A Sv k ∨ w.heap.size ≤ k

set_option maxRecDepth 100000 in
set_option maxHeartbeats 2000000 in
theorem dnew_yes (m : Nat) (hm : m ≤ 4096) (w : World) :
    Calls Tryd.prog 57 #[.int .i64 (m : Int)] w fun e w' => ∃ C g h, e = .returned (.tuple #[.pointer (some ⟨C, 0, none⟩), .nilIface]) ∧ DOut w' C g none 0 (.slice none 0 0) [] m [] (.pointer (some ⟨h, 0, none⟩), .int .i64 ((m : Nat) : Int), .bool false) ∧ Tab w' h none 0 [] m ∧
      Below w.heap.size w w' ∧ w.heap.size ≤ C ∧ w.heap.size ≤ g ∧ w.heap.size ≤ h ∧ h ≠ g ∧ h ≠ C := by
  go_enter Tryd.func57, Tryd.ntmps57
  go_wp2_with fail
  refine (new_yes m hm w).mono ?_
  rintro e w1 ⟨rfl, hT1, hb1, -⟩
  have HT1 := Lib.hid hT1
  have HB1 := Lib.hid hb1
  clear hT1 hb1
  go_wp2_with fail
  refine (new_yes m hm w1).mono ?_
  rintro e w2 ⟨rfl, hT2, hb2, -⟩
  have HT2 := Lib.hid hT2
  have HB2 := Lib.hid hb2
  clear hT2 hb2
  go_wp2
  go_ret2
  have hb3 := (Below.refl w2.heap.size w2).alloc (Nat.le_refl _) (.cells #[.pointer (some ⟨w.heap.size, 0, none⟩), .pointer (some ⟨w1.heap.size, 0, none⟩), .int .i64 ((m : Nat) : Int), .slice none 0 0, .bool false] 134)
  have s1 := HB1.out.size
  have s2 := HB2.out.size
  have l1 := HT1.out.blk.lt
  have l2 := HT2.out.blk.lt
  refine ⟨w2.heap.size, w.heap.size, w1.heap.size, rfl, ⟨Blk.new w2 _ _, (HT1.out.below HB2.out).below hb3, World.ownsRow_nil _ _ _ _⟩, HT2.out.below hb3,
    (HB1.out.trans (HB2.out.mono s1)).trans (hb3.mono (by omega)), by omega, by omega, by omega, by omega, by omega⟩


theorem dres_end {w w1 w2 : World} {C g : Nat} {A : Option Addr} {c p : Nat} {Sv v2 : Value} {xs' : List Fld} {ps : List Nat} (hN : ¬ tOwn g A C ∧ Sv.ownBlock ≠ some C ∧ ∀ k, Sv.ownBlock = some k → ¬ tOwn g A k) (hk1 : Keep (tOwn g A) w w1)
    (hb1 : Blk w1 C 134 #[.pointer (some ⟨g, 0, none⟩), qq.1, qq.2.1, Sv, qq.2.2]) (ht1 : Tab w1 g A c xs' p) (o : Obj) (hown2 : w2.ownsRow 0 3 1 v2 (ps.length + 1) (szs ps ++ [.int .i64 ((p : Nat) : Int)])) (hg2 : (w1.alloc o).grownBy w2 Sv.ownBlock)
    (hv : v2.ownBlock = Sv.ownBlock ∨ v2.ownBlock = some (w1.alloc o).heap.size) :
    DOutDone w (w2.setCell ⟨C, 3, none⟩ v2) C g A Sv xs' p (ps ++ [p]) qq ∧ w2.cell? ⟨C, 3, none⟩ = some Sv ∧ w2.frozen? ⟨C, 3, none⟩ = false ∧ C < w2.heap.size := by
  have hba : Below w1.heap.size w1 (w1.alloc o) := (Below.refl _ _).alloc (Nat.le_refl _) _
  have k1 : Keep (fun k => Sv.ownBlock = some k) w1 w2 := (Keep.of_below (S := fun k => Sv.ownBlock = some k) hba).grown hg2 fun k hk => .inl hk
  have hb2 : Blk w2 C 134 #[.pointer (some ⟨g, 0, none⟩), qq.1, qq.2.1, Sv, qq.2.2] := hb1.keep k1 hN.2.1
  have ht2 : Tab w2 g A c xs' p := ht1.keep k1 fun k hk hs => hN.2.2 k hs hk
  have k3 : Keep (fun k => k = C) w2 (w2.setCell ⟨C, 3, none⟩ v2) := (Keep.refl (fun k => k = C) w2).setCell (p := ⟨C, 3, none⟩) (.inl rfl) v2
  have hfresh : ∀ k, v2.ownBlock = some k → Sv.ownBlock = some k ∨ w1.heap.size ≤ k := by
    intro k hk
    rcases hv with h | h
    · exact .inl (by rw [← h]; exact hk)
    · rw [h] at hk
      cases hk
      exact .inr (by simp)
  have hne2 : v2.ownBlock ≠ some C := fun e => by
    rcases hfresh C e with h | h
    · exact hN.2.1 h
    · have := hb1.lt
      omega
  refine ⟨⟨A, c, v2, ⟨?_, ht2.keep k3 fun k hk he => hN.1 (he ▸ hk), ?_⟩, ?_, ?_⟩, hb2.cell 3, hb2.frozen 3, hb2.lt⟩
  · have := hb2.set_ 3 v2
    simpa using this
  · have e1 : szs (ps ++ [p]) = szs ps ++ [.int .i64 ((p : Nat) : Int)] := by rw [szs_append]; rfl
    rw [e1, List.length_append]
    exact ownRow_keep hown2 k3 fun k hk he => hne2 (he ▸ hk)
  · exact ((hk1.mono (T := oOwn C g A Sv) fun i hi => .inr (.inl hi)).trans k1 fun i hi => .inl (.inr (.inr hi))).trans k3 fun i hi => .inl (.inl hi)
  · rintro k (rfl | hk | hk)
    · exact .inl (.inl rfl)
    · exact .inl (.inr (.inl hk))
    · rcases hfresh k hk with h | h
      · exact .inl (.inr (.inr h))
      · exact .inr (Nat.le_trans hk1.size h)

set_option maxRecDepth 100000 in
set_option maxHeartbeats 2000000 in
theorem dresize_yes {w : World} {C g : Nat} {A : Option Addr} {c : Nat} {Sv : Value} {xs : List Fld} {mx : Nat} {ps : List Nat} (H : DOut w C g A c Sv xs mx ps qq) (p : Nat) (hp : p ≤ 4096) (hl : ps.length ≤ 1000000) :
    Calls Tryd.prog 60 #[.pointer (some ⟨C, 0, none⟩), .int .i64 (p : Int)] w fun e w' => e = .returned .nilIface ∧ DOutDone w w' C g A Sv (shr p xs) p (ps ++ [p]) qq := by
  obtain ⟨i0, hi, hz0, hz1, hz2⟩ := info_parts int_info
  have HI := Lib.hid hi
  have HZ0 := Lib.hid hz0
  have HZ1 := Lib.hid hz1
  have HZ2 := Lib.hid hz2
  have HN := Lib.hid H.ne
  have HLT := Lib.hid H.lt
  obtain ⟨hb, ht, hr⟩ := H
  have c0 := hb.cell 0
  have c3 := hb.cell 3
  have HB := Lib.hid hb
  have HT := Lib.hid ht
  have HR := Lib.hid hr
  clear hi hz0 hz1 hz2 hb ht hr
  go_enter Tryd.func60, Tryd.ntmps60
  go_wp2_with fail
  refine (resize_yes HT.out p hp).mono ?_
  rintro e w1 ⟨rfl, hT1, hk1⟩
  have hbk1 := HB.out.keep hk1 HN.out.1
  have hr1 := ownRow_keep HR.out hk1 HN.out.2.2
  have c3 := hbk1.cell 3
  have f3 := hbk1.frozen 3
  have hlt := hbk1.lt
  have HB1 := Lib.hid hbk1
  have HR1 := Lib.hid hr1
  have HT1 := Lib.hid hT1
  have HK1 := Lib.hid hk1
  have hra : (w1.alloc (.cells #[.int .i64 ((p : Nat) : Int)] 3)).ownsRow 0 3 1 Sv ps.length (szs ps) := hr1.alloc _
  have HRA := Lib.hid hra
  clear hbk1 hr1 hT1 hk1 c0 hra
  go_wp2_with (at_builtin; refine wpList_append_any _ rfl _ _ 84 rfl 0 3 i0 (.int .i64 0) 1 8 Tryd.underlying84 HI.out HZ0.out HZ1.out HZ2.out rfl (by decide) _ _ _ rfl HRA.out _ (some ⟨w1.heap.size, 0, none⟩) 1 1 [.int .i64 ((p : Nat) : Int)] rfl ⟨rfl, fun _ => ⟨_, rfl, by simp; exact Nat.lt_succ_self _, cell_one_new _ _ _⟩⟩ (by simp [Value.oneCell']) (by unfold maxLen; omega) (by omega) (Nat.zero_le _) ?_; intro v2 w2 hown2 hg2 hv2; obtain ⟨A2, c2, rfl⟩ := own_slice hown2; have hend := dres_end HN.out HK1.out HB1.out HT1.out _ hown2 hg2 hv2; have c3 := hend.2.1; have f3 := hend.2.2.1; have hlt := hend.2.2.2; have HEND := Lib.hid hend.1; clear hend)
  go_ret
  exact ⟨rfl, HEND.out⟩
/-- Where Encode's loop stands: the coder, the writer. -/
def DEncAt (w wr : World) (C g : Nat) (A : Option Addr) (Sv : Value) (G : Nat) (xs : List Fld) (mx : Nat) (b : List UInt8) (qq : Value × Value × Value) : Prop :=
  ∃ A' c' v, DOut wr C g A' c' (.slice none 0 0) xs mx [] qq ∧ Wr wr G v b ∧ Keep (oOwn C g A Sv) w wr ∧ (∀ k, oOwn C g A' (.slice none 0 0) k → oOwn C g A Sv k ∨ w.heap.size ≤ k) ∧ (∀ k, wOwn G v k → w.heap.size ≤ k) ∧ ∀ k, wOwn G v k → ¬ oOwn C g A' (.slice none 0 0) k
section
variable {w wr w1 : World} {C g G mx : Nat} {A : Option Addr} {Sv : Value} {xs : List Fld} {b : List UInt8}
theorem DEncAt.next (h : DEncAt w wr C g A Sv G xs mx b qq) (hb : Below wr.heap.size wr w1) : DEncAt w w1 C g A Sv G xs mx b qq := by
  obtain ⟨A', c', v, h1, h2, h3, h4, h5, h6⟩ := h
  exact ⟨A', c', v, h1.below hb, h2.keep (S := fun _ => False) (Keep.of_below hb) (fun _ _ h => h), h3.trans (Keep.of_below (S := fun _ => False) hb) (fun i hi => hi.elim), h4, h5, h6⟩
theorem DEncAt.cells (h : DEncAt w wr C g A Sv G xs mx b qq) : wr.cell? ⟨C, 0, none⟩ = some (.pointer (some ⟨g, 0, none⟩)) ∧ xs.length ≤ 128 ∧ C < wr.heap.size ∧ w.heap.size ≤ wr.heap.size := by
  obtain ⟨A', c', v, ⟨hb, ht, _⟩, h2, h3, h4, h5, h6⟩ := h
  exact ⟨hb.cell 0, ht.cap.2.2, hb.lt, h3.size⟩
theorem denc_wrote {A' : Option Addr} {c' : Nat} {v : Value} (h1 : DOut wr C g A' c' (.slice none 0 0) xs mx [] qq) (h3 : Keep (oOwn C g A Sv) w wr) (h4 : ∀ k, oOwn C g A' (.slice none 0 0) k → oOwn C g A Sv k ∨ w.heap.size ≤ k) (h5 : ∀ k, wOwn G v k → w.heap.size ≤ k) (h6 : ∀ k, wOwn G v k → ¬ oOwn C g A' (.slice none 0 0) k) {w' : World} {b' : List UInt8} (hw : Wrote wr w' G v b') : DEncAt w w' C g A Sv G xs mx b' qq ∧ wr.heap.size ≤ w'.heap.size := by
  obtain ⟨v', h7, h8, h9⟩ := hw
  refine ⟨⟨A', c', v', h1.keep h8 fun k hk hs => h6 k hs hk, h7, h3.trans h8 fun i hi => .inr (h5 i hi), h4, fun k hk => ?_, fun k hk => ?_⟩, h8.size⟩
  · rcases h9 k hk with h | h
    · exact h5 k h
    · exact Nat.le_trans h3.size h
  · rcases h9 k hk with h | h
    · exact h6 k h
    · intro ho
      have := h1.lt k ho
      omega
theorem denc_num (h : DEncAt w wr C g A Sv G xs mx b qq) (n bits first : Int) (hl : b.length + (putL n bits first).length ≤ 140737488355328) :
    Calls Tryd.prog 91 #[.pointer (some ⟨G, 0, none⟩), .int .i64 n, .int .i64 bits, .int .i64 first] wr fun e w' => e = .returned (.tuple #[]) ∧ DEncAt w w' C g A Sv G xs mx (b ++ putL n bits first) qq ∧ wr.heap.size ≤ w'.heap.size := by
  obtain ⟨A', c', v, h1, h2, h3, h4, h5, h6⟩ := h
  refine (wnum_any h2 n bits first hl).mono ?_
  rintro e w' ⟨he, hw⟩
  exact ⟨he, denc_wrote h1 h3 h4 h5 h6 hw⟩
theorem denc_text (h : DEncAt w wr C g A Sv G xs mx b qq) (s : List UInt8) (hs : s.length ≤ 140737488355328) (hl : b.length + (txtL s).length ≤ 140737488355328) :
    Calls Tryd.prog 92 #[.pointer (some ⟨G, 0, none⟩), .string ⟨s.toArray⟩] wr fun e w' => e = .returned (.tuple #[]) ∧ DEncAt w w' C g A Sv G xs mx (b ++ txtL s) qq ∧ wr.heap.size ≤ w'.heap.size := by
  obtain ⟨A', c', v, h1, h2, h3, h4, h5, h6⟩ := h
  refine (wtext_any h2 s hs hl).mono ?_
  rintro e w' ⟨he, hw⟩
  exact ⟨he, denc_wrote h1 h3 h4 h5 h6 hw⟩
theorem denc_find (h : DEncAt w wr C g A Sv G xs mx b qq) (f : Fld) (hf : fOk f) :
    Calls Tryd.prog 49 #[.pointer (some ⟨g, 0, none⟩), .agg #[.string ⟨f.1.toArray⟩, .string ⟨f.2.toArray⟩]] wr fun e w' =>
      e = .returned (.tuple #[.int .i64 ((fnd (isF f) (tAll xs) : Nat) : Int), .int .i64 ((fnd (isN f) (tAll xs) : Nat) : Int)]) ∧ Below wr.heap.size wr w' := by
  obtain ⟨A', c', v, h1, h2, h3, h4, h5, h6⟩ := h
  exact find_any h1.tab f hf
theorem denc_add (h : DEncAt w wr C g A Sv G xs mx b qq) (f : Fld) (hf : fOk f) :
    Calls Tryd.prog 45 #[.pointer (some ⟨g, 0, none⟩), .agg #[.string ⟨f.1.toArray⟩, .string ⟨f.2.toArray⟩]] wr fun e w' => (∃ v, e = .returned v) ∧ DEncAt w w' C g A Sv G (tAdd mx xs f) mx b qq ∧ wr.heap.size ≤ w'.heap.size := by
  obtain ⟨A', c', v, h1, h2, h3, h4, h5, h6⟩ := h
  have hne := h1.ne
  obtain ⟨hb, ht, hr⟩ := h1
  refine (add_any ht f hf).mono ?_
  rintro e w' ⟨he, A2, c2, h7, h8, h9⟩
  have hgo : ∀ k, wOwn G v k → k < wr.heap.size := fun k hk => h2.lt k hk
  refine ⟨⟨_, he⟩, ⟨A2, c2, v, ⟨hb.keep h8 hne.1, h7, World.ownsRow_nil _ _ _ _⟩, h2.keep h8 (fun k hk hs => h6 k hk (.inr (.inl hs))), h3.trans h8 fun i hi => h4 i (.inr (.inl hi)), ?_, h5, ?_⟩, h8.size⟩
  · rintro k (rfl | hk | hk)
    · exact h4 k (.inl rfl)
    · rcases h9 k hk with h | h
      · exact h4 k (.inr (.inl h))
      · exact .inr (Nat.le_trans h3.size h)
    · simp [Value.ownBlock] at hk
  · intro k hk
    rintro (rfl | ho | ho)
    · exact h6 _ hk (.inl rfl)
    · rcases h9 k ho with h | h
      · exact h6 k hk (.inr (.inl h))
      · have := hgo k hk
        omega
    · simp [Value.ownBlock] at ho
end
end Go.Proofs.YtkbbkamnmdeagaaDoor
