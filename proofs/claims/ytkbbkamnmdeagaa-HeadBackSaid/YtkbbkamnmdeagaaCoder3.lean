/-
  What a coder says, piece by piece: plain law, and the words of Encode's loop. No condition.
-/
import Derived.Test.YtkbbkamnmdeagaaCoder2
import Derived.Test.YtkbbkamnmdeagaaHeadLaw
import Derived.Test.YtkbbkamnmdeagaaAdd
import Derived.Test.YtkbbkamnmdeagaaFind
namespace Go.Proofs.Ytkbbkamnmdeagaa
open Go.RowKit

theorem nextL_snoc (mx : Nat) (xs l : List Fld) (f : Fld) : nextL mx xs (l ++ [f]) = nextF mx (nextL mx xs l) f := by
  induction l generalizing xs with
  | nil => rfl
  | cons x l ih => exact ih _
theorem saidL_snoc (mx : Nat) (xs l : List Fld) (f : Fld) : saidL mx xs (l ++ [f]) = saidL mx xs l ++ saidF mx (nextL mx xs l) f := by
  induction l generalizing xs with
  | nil => simp [saidL, nextL]
  | cons x l ih =>
    show saidF mx xs x ++ saidL mx (nextF mx xs x) (l ++ [f]) = _
    rw [ih]
    simp [saidL, nextL]
theorem nextL_take (mx : Nat) (xs l : List Fld) (k : Nat) (h : k < l.length) : nextL mx xs (l.take (k + 1)) = nextF mx (nextL mx xs (l.take k)) l[k] := by rw [List.take_succ_eq_append_getElem h, nextL_snoc]
theorem saidL_take (mx : Nat) (xs l : List Fld) (k : Nat) (h : k < l.length) : saidL mx xs (l.take (k + 1)) = saidL mx xs (l.take k) ++ saidF mx (nextL mx xs (l.take k)) l[k] := by rw [List.take_succ_eq_append_getElem h, saidL_snoc]
theorem putL_len (n : Nat) (t f : Int) (h : n ≤ 2147483647) : (putL (n : Nat) t f).length ≤ 1000 := by
  unfold putL
  split
  · have := putN_len6 (n : Int).toNat t.toNat (by omega) f.toNat
    omega
  · simp
theorem txtL_len (s : List UInt8) : (txtL s).length ≤ 1500 := by
  unfold txtL
  split
  · simp
  · have h1 := txtC_le s
    have h2 := putL_len (txtC s).length 7 (txtF s) (by omega)
    rw [List.length_append]
    omega
theorem saidF_len (mx : Nat) (xs : List Fld) (f : Fld) (h : xs.length ≤ 4096) : (saidF mx xs f).length ≤ 5000 := by
  have h1 := fnd_le (isF f) (tAll xs)
  have h2 := fnd_le (isN f) (tAll xs)
  rw [tAll_len] at h1 h2
  have h3 := putL_len (fnd (isF f) (tAll xs)) 7 128 (by omega)
  have h4 := putL_len (fnd (isN f) (tAll xs)) 6 64 (by omega)
  have h5 := txtL_len f.1
  have h6 := txtL_len f.2
  unfold saidF
  split
  · omega
  · split
    · simp only [List.length_append]
      omega
    · simp only [List.length_append, List.length_nil]
      omega

/-- Where Encode's loop stands: the coder, the writer. -/
def EncAt (w wr : World) (C g : Nat) (A : Option Addr) (Sv : Value) (G : Nat) (xs : List Fld) (mx : Nat) (b : List UInt8) : Prop :=
  ∃ A' c' v, COut wr C g A' c' (.slice none 0 0) xs mx [] ∧ Wr wr G v b ∧ Keep (oOwn C g A Sv) w wr ∧ (∀ k, oOwn C g A' (.slice none 0 0) k → oOwn C g A Sv k ∨ w.heap.size ≤ k) ∧ (∀ k, wOwn G v k → w.heap.size ≤ k) ∧ ∀ k, wOwn G v k → ¬ oOwn C g A' (.slice none 0 0) k
section
variable {w wr w1 : World} {C g G mx : Nat} {A : Option Addr} {Sv : Value} {xs : List Fld} {b : List UInt8}
theorem EncAt.next (h : EncAt w wr C g A Sv G xs mx b) (hb : Below wr.heap.size wr w1) : EncAt w w1 C g A Sv G xs mx b := by
  obtain ⟨A', c', v, h1, h2, h3, h4, h5, h6⟩ := h
  exact ⟨A', c', v, h1.below hb, h2.keep (S := fun _ => False) (Keep.of_below hb) (fun _ _ h => h), h3.trans (Keep.of_below (S := fun _ => False) hb) (fun i hi => hi.elim), h4, h5, h6⟩
theorem EncAt.cells (h : EncAt w wr C g A Sv G xs mx b) : wr.cell? ⟨C, 0, none⟩ = some (.pointer (some ⟨g, 0, none⟩)) ∧ xs.length ≤ 128 ∧ C < wr.heap.size ∧ w.heap.size ≤ wr.heap.size := by
  obtain ⟨A', c', v, ⟨⟨hh, mo, bd, hb⟩, ht, _⟩, h2, h3, h4, h5, h6⟩ := h
  exact ⟨hb.cell 0, ht.cap.2.2, hb.lt, h3.size⟩
theorem enc_wrote {A' : Option Addr} {c' : Nat} {v : Value} (h1 : COut wr C g A' c' (.slice none 0 0) xs mx []) (h3 : Keep (oOwn C g A Sv) w wr) (h4 : ∀ k, oOwn C g A' (.slice none 0 0) k → oOwn C g A Sv k ∨ w.heap.size ≤ k) (h5 : ∀ k, wOwn G v k → w.heap.size ≤ k) (h6 : ∀ k, wOwn G v k → ¬ oOwn C g A' (.slice none 0 0) k) {w' : World} {b' : List UInt8} (hw : Wrote wr w' G v b') : EncAt w w' C g A Sv G xs mx b' ∧ wr.heap.size ≤ w'.heap.size := by
  obtain ⟨v', h7, h8, h9⟩ := hw
  refine ⟨⟨A', c', v', h1.keep h8 fun k hk hs => h6 k hs hk, h7, h3.trans h8 fun i hi => .inr (h5 i hi), h4, fun k hk => ?_, fun k hk => ?_⟩, h8.size⟩
  · rcases h9 k hk with h | h
    · exact h5 k h
    · exact Nat.le_trans h3.size h
  · rcases h9 k hk with h | h
    · exact h6 k h
    · intro ho
      have := h1.lt k ho
      omega
theorem enc_num (h : EncAt w wr C g A Sv G xs mx b) (n bits first : Int) (hl : b.length + (putL n bits first).length ≤ 140737488355328) :
    Calls Try.prog 33 #[.pointer (some ⟨G, 0, none⟩), .int .i64 n, .int .i64 bits, .int .i64 first] wr fun e w' => e = .returned (.tuple #[]) ∧ EncAt w w' C g A Sv G xs mx (b ++ putL n bits first) ∧ wr.heap.size ≤ w'.heap.size := by
  obtain ⟨A', c', v, h1, h2, h3, h4, h5, h6⟩ := h
  refine (wnum_any h2 n bits first hl).mono ?_
  rintro e w' ⟨he, hw⟩
  exact ⟨he, enc_wrote h1 h3 h4 h5 h6 hw⟩
theorem enc_text (h : EncAt w wr C g A Sv G xs mx b) (s : List UInt8) (hs : s.length ≤ 140737488355328) (hl : b.length + (txtL s).length ≤ 140737488355328) :
    Calls Try.prog 34 #[.pointer (some ⟨G, 0, none⟩), .string ⟨s.toArray⟩] wr fun e w' => e = .returned (.tuple #[]) ∧ EncAt w w' C g A Sv G xs mx (b ++ txtL s) ∧ wr.heap.size ≤ w'.heap.size := by
  obtain ⟨A', c', v, h1, h2, h3, h4, h5, h6⟩ := h
  refine (wtext_any h2 s hs hl).mono ?_
  rintro e w' ⟨he, hw⟩
  exact ⟨he, enc_wrote h1 h3 h4 h5 h6 hw⟩
theorem enc_find (h : EncAt w wr C g A Sv G xs mx b) (f : Fld) (hf : fOk f) :
    Calls Try.prog 17 #[.pointer (some ⟨g, 0, none⟩), .agg #[.string ⟨f.1.toArray⟩, .string ⟨f.2.toArray⟩]] wr fun e w' =>
      e = .returned (.tuple #[.int .i64 ((fnd (isF f) (tAll xs) : Nat) : Int), .int .i64 ((fnd (isN f) (tAll xs) : Nat) : Int)]) ∧ Below wr.heap.size wr w' := by
  obtain ⟨A', c', v, h1, h2, h3, h4, h5, h6⟩ := h
  exact find_any h1.tab f hf
theorem enc_add (h : EncAt w wr C g A Sv G xs mx b) (f : Fld) (hf : fOk f) :
    Calls Try.prog 12 #[.pointer (some ⟨g, 0, none⟩), .agg #[.string ⟨f.1.toArray⟩, .string ⟨f.2.toArray⟩]] wr fun e w' => (∃ v, e = .returned v) ∧ EncAt w w' C g A Sv G (tAdd mx xs f) mx b ∧ wr.heap.size ≤ w'.heap.size := by
  obtain ⟨A', c', v, h1, h2, h3, h4, h5, h6⟩ := h
  have hne := h1.ne
  obtain ⟨⟨hh, mo, bd, hb⟩, ht, hr⟩ := h1
  refine (add_any ht f hf).mono ?_
  rintro e w' ⟨he, A2, c2, h7, h8, h9⟩
  have hgo : ∀ k, wOwn G v k → k < wr.heap.size := fun k hk => h2.lt k hk
  refine ⟨⟨_, he⟩, ⟨A2, c2, v, ⟨⟨hh, mo, bd, hb.keep h8 hne.1⟩, h7, World.ownsRow_nil _ _ _ _⟩, h2.keep h8 (fun k hk hs => h6 k hk (.inr (.inl hs))), h3.trans h8 fun i hi => h4 i (.inr (.inl hi)), ?_, h5, ?_⟩, h8.size⟩
  · rintro k (rfl | hk | hk)
    · exact h4 k (.inl rfl)
    · rcases h9 k hk with h | h
      · exact h4 k (.inr (.inl h))
      · exact .inr (Nat.le_trans h3.size h)
    · simp [Value.ownBlock] at hk
  · intro k hk
    rintro (rfl | ho | ho)
    · exact h6 _ hk (.inl rfl)
    · rcases h9 k ho with h | h
      · exact h6 k hk (.inr (.inl h))
      · have := hgo k hk
        omega
    · simp [Value.ownBlock] at ho
end
end Go.Proofs.Ytkbbkamnmdeagaa
