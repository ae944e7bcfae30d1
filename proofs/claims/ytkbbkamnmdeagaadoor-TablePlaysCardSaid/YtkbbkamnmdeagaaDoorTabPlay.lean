/-
  Both tables, the program's and the reference's, side by side in a world, with the words of one round: what each call leaves of them. Condition: the field's texts' lengths.
-/
import Derived.Test.YtkbbkamnmdeagaaDoorRefTab4
import Derived.Test.YtkbbkamnmdeagaaDoorAdd
namespace Go.Proofs.YtkbbkamnmdeagaaDoor
open Go.RowKit

/-- Both tables, with the same fields and the same greatest size. -/
def TT (w0 wr : World) (g q : Nat) (xs : List Fld) (mx : Nat) : Prop :=
  ∃ A c B d, Tab wr g A c xs mx ∧ RTab wr q B d xs mx ∧ Below w0.heap.size w0 wr ∧ (∀ k, tOwn g A k → w0.heap.size ≤ k) ∧ w0.heap.size ≤ q ∧ ¬ tOwn g A q ∧ ∀ x, B = some x → x.block < wr.heap.size ∧ ¬ tOwn g A x.block
/-- Both tables, the two numbers and the field of a round. -/
def TV (w0 wr : World) (g q V F : Nat) (xs : List Fld) (mx : Nat) (ys : List Fld) (my : Nat) (a b : Int) (f : Fld) : Prop :=
  ∃ A c B d, Tab wr g A c xs mx ∧ RTab wr q B d ys my ∧ Below w0.heap.size w0 wr ∧ (∀ k, tOwn g A k → w0.heap.size ≤ k) ∧ w0.heap.size ≤ q ∧ ¬ tOwn g A q ∧ (∀ x, B = some x → x.block < wr.heap.size ∧ ¬ tOwn g A x.block) ∧
    Blk wr V 69 #[.int .i64 a, .int .i64 b] ∧ Blk wr F 86 #[.string ⟨f.1.toArray⟩, .string ⟨f.2.toArray⟩] ∧ ¬ tOwn g A V ∧ ¬ tOwn g A F ∧ V ≠ q ∧ F ≠ q
section
variable {w0 wr w1 : World} {g q V F mx my : Nat} {xs ys : List Fld} {a b : Int} {f : Fld}
theorem TT.next (h : TT w0 wr g q xs mx) (hb : Below wr.heap.size wr w1) : TT w0 w1 g q xs mx := by
  obtain ⟨A, c, B, d, h1, h2, h3, h4⟩ := h
  obtain ⟨i1, i2, i3, i4⟩ := h4
  exact ⟨A, c, B, d, h1.below hb, h2.below hb, h3.trans (hb.mono h3.size), i1, i2, i3, fun x hx => ⟨Nat.lt_of_lt_of_le (i4 x hx).1 hb.size, (i4 x hx).2⟩⟩
theorem TV.next (h : TV w0 wr g q V F xs mx ys my a b f) (hb : Below wr.heap.size wr w1) : TV w0 w1 g q V F xs mx ys my a b f := by
  obtain ⟨A, c, B, d, h1, h2, h3, h4, h5, h6, h7, h8, h9, h10⟩ := h
  exact ⟨A, c, B, d, h1.below hb, h2.below hb, h3.trans (hb.mono h3.size), h4, h5, h6, fun x hx => ⟨Nat.lt_of_lt_of_le (h7 x hx).1 hb.size, (h7 x hx).2⟩, h8.below hb h8.lt, h9.below hb h9.lt, h10⟩
theorem TV.back (h : TV w0 wr g q V F xs mx xs mx a b f) : TT w0 wr g q xs mx := by
  obtain ⟨A, c, B, d, h1, h2, h3, h4, h5, h6, h7, _⟩ := h
  exact ⟨A, c, B, d, h1, h2, h3, h4, h5, h6, h7⟩
theorem TT.with (h : TT w0 wr g q xs mx) (hb : Below wr.heap.size wr w1) (hV : Blk w1 V 69 #[.int .i64 a, .int .i64 b]) (hF : Blk w1 F 86 #[.string ⟨f.1.toArray⟩, .string ⟨f.2.toArray⟩]) (h1 : wr.heap.size ≤ V) (h2 : wr.heap.size ≤ F) :
    TV w0 w1 g q V F xs mx xs mx a b f := by
  have hn := h.next hb
  obtain ⟨A, c, B, d, t1, t2, t3, t4, t5, t6, t7⟩ := h
  have l1 := t1.lt
  have l2 := t2.blk.lt
  exact ⟨A, c, B, d, t1.below hb, t2.below hb, t3.trans (hb.mono t3.size), t4, t5, t6, fun x hx => ⟨Nat.lt_of_lt_of_le (t7 x hx).1 hb.size, (t7 x hx).2⟩, hV, hF, fun hh => by have := l1 _ hh; omega, fun hh => by have := l1 _ hh; omega, by omega, by omega⟩
theorem TV.cells (h : TV w0 wr g q V F xs mx ys my a b f) : wr.cell? ⟨V, 0, none⟩ = some (.int .i64 a) ∧ wr.cell? ⟨V, 1, none⟩ = some (.int .i64 b) ∧ wr.cell? ⟨F, 0, none⟩ = some (.string ⟨f.1.toArray⟩) ∧ wr.cell? ⟨F, 1, none⟩ = some (.string ⟨f.2.toArray⟩) ∧
    wr.cell? ⟨q, 0, none⟩ = (wr.cell? ⟨q, 0, none⟩) ∧ wr.cell? ⟨q, 1, none⟩ = some (.int .i64 ((my : Nat) : Int)) := by
  obtain ⟨A, c, B, d, h1, h2, h3, h4, h5, h6, h7, h8, h9, h10⟩ := h
  exact ⟨h8.cell 0, h8.cell 1, h9.cell 0, h9.cell 1, rfl, h2.blk.cell 1⟩
theorem TV.lts (h : TV w0 wr g q V F xs mx ys my a b f) : V < wr.heap.size ∧ F < wr.heap.size ∧ q < wr.heap.size ∧ wr.frozen? ⟨q, 1, none⟩ = false ∧ w0.heap.size ≤ wr.heap.size := by
  obtain ⟨A, c, B, d, h1, h2, h3, h4, h5, h6, h7, h8, h9, h10⟩ := h
  exact ⟨h8.lt, h9.lt, h2.blk.lt, h2.blk.frozen 1, h3.size⟩
theorem RTab.keep {S : Nat → Prop} {B : Option Addr} {d : Nat} (h : RTab wr q B d ys my) (hk : Keep S wr w1) (hq : ¬ S q) (hB : ∀ x, B = some x → ¬ S x.block) : RTab w1 q B d ys my := by
  refine ⟨h.blk.keep hk hq, h.cap, ⟨h.reads.1, fun h0 => ?_⟩, h.wt, h.mx, h.ok⟩
  obtain ⟨ad, hA, hb, hc⟩ := h.reads.2 h0
  refine ⟨ad, hA, Nat.lt_of_lt_of_le hb hk.size, fun j u hu => ?_⟩
  rw [← hc j u hu]
  refine World.cell?_of_block (hk.block _ (by rw [block_of_add]; exact hb) ?_)
  rw [block_of_add]
  exact hB ad hA
theorem tv_add (h : TV w0 wr g q V F xs mx ys my a b f) (x : Fld) (hx : fOk x) :
    Calls Tryd.prog 45 #[.pointer (some ⟨g, 0, none⟩), .agg #[.string ⟨x.1.toArray⟩, .string ⟨x.2.toArray⟩]] wr fun e w' => e = .returned (.bool (decide (fsz x ≤ mx))) ∧ TV w0 w' g q V F (tAdd mx xs x) mx ys my a b f := by
  obtain ⟨A, c, B, d, h1, h2, h3, h4, h5, h6, h7, h8, h9, h10, h11, h12, h13⟩ := h
  have l2 := h2.blk.lt
  have l8 := h8.lt
  have l9 := h9.lt
  refine (add_any h1 x hx).mono ?_
  rintro e w' ⟨he, A', c', hT, hk, hf⟩
  have fresh : ∀ k, k < wr.heap.size → ¬ tOwn g A k → ¬ tOwn g A' k := fun k hk1 hn hh => by
    rcases hf k hh with h | h
    · exact hn h
    · omega
  refine ⟨he, A', c', B, d, hT, h2.keep hk h6 fun y hy => (h7 y hy).2, h3.trans (hk.below h3.size h4), fun k hh => ?_, h5, fresh _ l2 h6, fun y hy => ⟨Nat.lt_of_lt_of_le (h7 y hy).1 hk.size, fresh _ (h7 y hy).1 (h7 y hy).2⟩, h8.keep hk h10, h9.keep hk h11, fresh _ l8 h10, fresh _ l9 h11, h12, h13⟩
  rcases hf k hh with h | h
  · exact h4 k h
  · exact Nat.le_trans h3.size h
theorem tv_resize (h : TV w0 wr g q V F xs mx ys my a b f) (n : Nat) (hn : n ≤ 4096) :
    Calls Tryd.prog 48 #[.pointer (some ⟨g, 0, none⟩), .int .i64 (n : Int)] wr fun e w' => e = .returned .nilIface ∧ TV w0 w' g q V F (shr n xs) n ys my a b f := by
  obtain ⟨A, c, B, d, h1, h2, h3, h4, h5, h6, h7, h8, h9, h10, h11, h12, h13⟩ := h
  refine (resize_yes h1 n hn).mono ?_
  rintro e w' ⟨he, hT, hk⟩
  exact ⟨he, A, c, B, d, hT, h2.keep hk h6 fun y hy => (h7 y hy).2, h3.trans (hk.below h3.size h4), h4, h5, h6, fun y hy => ⟨Nat.lt_of_lt_of_le (h7 y hy).1 hk.size, (h7 y hy).2⟩, h8.keep hk h10, h9.keep hk h11, h10, h11, h12, h13⟩
theorem Tab.but {A : Option Addr} {c : Nat} (h : Tab wr g A c xs mx) (hk : But q wr w1) (hq : ¬ tOwn g A q) : Tab w1 g A c xs mx := h.keep hk fun k hk1 he => hq (he ▸ hk1)
theorem tv_radd (h : TV w0 wr g q V F xs mx ys my a b f) (x : Fld) (hx : fOk x) :
    Calls Tryd.prog 46 #[.pointer (some ⟨q, 0, none⟩), .agg #[.string ⟨x.1.toArray⟩, .string ⟨x.2.toArray⟩]] wr fun e w' => e = .returned (.bool (decide (fsz x ≤ my))) ∧ TV w0 w' g q V F xs mx (tAdd my ys x) my a b f := by
  obtain ⟨A, c, B, d, h1, h2, h3, h4, h5, h6, h7, h8, h9, h10, h11, h12, h13⟩ := h
  have l1 := h1.lt
  refine (radd_any h2 x hx).mono ?_
  rintro e w' ⟨he, B', d', hT, hk, hf⟩
  exact ⟨he, A, c, B', d', h1.but hk h6, hT, h3.trans (hk.below h3.size fun i hi => by rw [hi]; exact h5), h4, h5, h6, fun y hy => ⟨(hf y hy).2, fun hh => by have := l1 _ hh; have := (hf y hy).1; omega⟩, h8.keep hk h12, h9.keep hk h13, h10, h11, h12, h13⟩
theorem tv_rshrink (h : TV w0 wr g q V F xs mx ys my a b f) (n : Nat) (hn : n ≤ 4096) :
    Calls Tryd.prog 47 #[.pointer (some ⟨q, 0, none⟩), .int .i64 (n : Int)] wr fun e w' => e = .returned (.tuple #[]) ∧ TV w0 w' g q V F xs mx (shr n ys) my a b f := by
  obtain ⟨A, c, B, d, h1, h2, h3, h4, h5, h6, h7, h8, h9, h10, h11, h12, h13⟩ := h
  refine (rshrink_any h2 n hn).mono ?_
  rintro e w' ⟨he, hT, hk⟩
  exact ⟨he, A, c, B, d, h1.but hk h6, hT, h3.trans (hk.below h3.size fun i hi => by rw [hi]; exact h5), h4, h5, h6, fun y hy => ⟨Nat.lt_of_lt_of_le (h7 y hy).1 hk.size, (h7 y hy).2⟩, h8.keep hk h12, h9.keep hk h13, h10, h11, h12, h13⟩
theorem tv_rmax (h : TV w0 wr g q V F xs mx ys my a b f) (n : Nat) (hn : n ≤ 4096) : TV w0 (wr.setCell ⟨q, 1, none⟩ (.int .i64 (n : Int))) g q V F xs mx ys n a b f := by
  obtain ⟨A, c, B, d, h1, h2, h3, h4, h5, h6, h7, h8, h9, h10, h11, h12, h13⟩ := h
  have hk : But q wr (wr.setCell ⟨q, 1, none⟩ (.int .i64 (n : Int))) := (Keep.refl (fun k => k = q) wr).setCell (p := ⟨q, 1, none⟩) (.inl rfl) _
  refine ⟨A, c, B, d, h1.but hk h6, ⟨?_, h2.cap, ?_, h2.wt, hn, h2.ok⟩, h3.trans (hk.below h3.size fun i hi => by rw [hi]; exact h5), h4, h5, h6, fun y hy => ⟨Nat.lt_of_lt_of_le (h7 y hy).1 hk.size, (h7 y hy).2⟩, h8.keep hk h12, h9.keep hk h13, h10, h11, h12, h13⟩
  · have := h2.blk.set_ 1 (.int .i64 (n : Int))
    simpa using this
  · have := reads_set (g := q) h2.reads (fun h0 => reads_neR h2.reads h2.blk h0) 1 (.int .i64 (n : Int))
    simpa using this
theorem tv_find (h : TV w0 wr g q V F xs mx ys my a b f) (x : Fld) (hx : fOk x) :
    Calls Tryd.prog 49 #[.pointer (some ⟨g, 0, none⟩), .agg #[.string ⟨x.1.toArray⟩, .string ⟨x.2.toArray⟩]] wr fun e w' =>
      e = .returned (.tuple #[.int .i64 ((fnd (isF x) (tAll xs) : Nat) : Int), .int .i64 ((fnd (isN x) (tAll xs) : Nat) : Int)]) ∧ Below wr.heap.size wr w' := by
  obtain ⟨A, c, B, d, h1, _⟩ := h
  exact find_any h1 x hx
theorem tv_rfind (h : TV w0 wr g q V F xs mx ys my a b f) (x : Fld) (hx : fOk x) :
    Calls Tryd.prog 50 #[.pointer (some ⟨q, 0, none⟩), .agg #[.string ⟨x.1.toArray⟩, .string ⟨x.2.toArray⟩]] wr fun e w' =>
      e = .returned (.tuple #[.int .i64 ((fnd (isF x) (tAll ys) : Nat) : Int), .int .i64 ((fnd (isN x) (tAll ys) : Nat) : Int)]) ∧ Below wr.heap.size wr w' := by
  obtain ⟨A, c, B, d, h1, h2, _⟩ := h
  exact rfind_any h2 x hx
theorem tv_rall (h : TV w0 wr g q V F xs mx ys my a b f) :
    Calls Tryd.prog 51 #[.pointer (some ⟨q, 0, none⟩)] wr fun e w' => ∃ B d, e = .returned (.slice B (tAll ys).length d) ∧ (tAll ys).length ≤ d ∧ Reads w' w'.heap.size 2 B (tAll ys).length (fvs (tAll ys)) ∧ Below wr.heap.size wr w' := by
  obtain ⟨A, c, B, d, h1, h2, _⟩ := h
  exact rall_any h2
theorem tv_len (h : TV w0 wr g q V F xs mx ys my a b f) :
    Calls Tryd.prog 52 #[.pointer (some ⟨g, 0, none⟩)] wr fun e w' => e = .returned (.int .i64 ((12 + xs.length : Nat) : Int)) ∧ Below wr.heap.size wr w' := by
  obtain ⟨A, c, B, d, h1, h2, _⟩ := h
  exact len_any h1
theorem tv_len2 (h : TV w0 wr g q V F xs mx ys my a b f) :
    Calls Tryd.prog 52 #[.pointer (some ⟨g, 0, none⟩)] wr fun e w' => e = .returned (.int .i64 (((tAll xs).length : Nat) : Int)) ∧ Below wr.heap.size wr w' := by
  rw [tAll_len]
  exact tv_len h
theorem tv_size (h : TV w0 wr g q V F xs mx ys my a b f) :
    Calls Tryd.prog 53 #[.pointer (some ⟨g, 0, none⟩)] wr fun e w' => e = .returned (.int .i64 ((wt xs : Nat) : Int)) ∧ wr = w' := by
  obtain ⟨A, c, B, d, h1, h2, _⟩ := h
  exact tsize_any h1
theorem tv_get_no (h : TV w0 wr g q V F xs mx ys my a b f) (i : Int) (hi : i < 1 ∨ ((12 + xs.length : Nat) : Int) < i) :
    Calls Tryd.prog 56 #[.pointer (some ⟨g, 0, none⟩), .int .i64 i] wr fun e w' => e = .returned (.tuple #[.agg #[.string ⟨#[]⟩, .string ⟨#[]⟩], .iface 113 (.int .i64 5)]) ∧ Below wr.heap.size wr w' := by
  obtain ⟨A, c, B, d, h1, h2, _⟩ := h
  exact get_no h1 i hi
theorem tv_get_yes (h : TV w0 wr g q V F xs mx ys my a b f) (k : Nat) (hk : k < 12 + xs.length) (x : Fld) (hx : (tAll xs).getD k ([], []) = x) :
    Calls Tryd.prog 56 #[.pointer (some ⟨g, 0, none⟩), .int .i64 ((k : Int) + 1)] wr fun e w' => e = .returned (.tuple #[.agg #[.string ⟨x.1.toArray⟩, .string ⟨x.2.toArray⟩], .nilIface]) ∧ Below wr.heap.size wr w' := by
  obtain ⟨A, c, B, d, h1, h2, _⟩ := h
  exact get_yes h1 k hk x hx
/-- The reference's fields as its block holds them. -/
theorem tv_rows (h : TV w0 wr g q V F xs mx ys my a b f) : ∃ B d, wr.cell? ⟨q, 0, none⟩ = some (.slice B ys.length d) ∧ Reads wr wr.heap.size 2 B ys.length (fvs ys) ∧ (∀ x ∈ ys, fOk x) ∧ wt ys ≤ 4096 := by
  obtain ⟨A, c, B, d, h1, h2, _⟩ := h
  exact ⟨B, d, h2.blk.cell 0, h2.reads, h2.ok, h2.wt⟩
theorem tv_xlen (h : TV w0 wr g q V F xs mx ys my a b f) : xs.length ≤ 128 ∧ mx ≤ 4096 := by
  obtain ⟨A, c, B, d, h1, h2, _⟩ := h
  exact ⟨h1.cap.2.2, h1.mx⟩
set_option maxHeartbeats 1000000 in
theorem tv_max (h : TV w0 wr g q V F xs mx ys my a b f) :
    Calls Tryd.prog 55 #[.pointer (some ⟨g, 0, none⟩)] wr fun e w' => e = .returned (.int .i64 ((mx : Nat) : Int)) ∧ wr = w' := by
  obtain ⟨A, c, B, d, h1, h2, _⟩ := h
  obtain ⟨_, _, c2⟩ := h1.cells
  clear h1 h2
  go_enter Tryd.func55, Tryd.ntmps55
  go_wp2
  go_ret
  exact ⟨rfl, rfl⟩
end
end Go.Proofs.YtkbbkamnmdeagaaDoor
