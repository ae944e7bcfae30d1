/-
  A table behind a pointer: the contract of Find. Condition: the field's texts' lengths.
  What a coder says, piece by piece: plain law, and the words of Encode's loop. No condition.
  Encode of a coder: what it refuses. Condition: the fields' texts' lengths.
-/
import Derived.Test.YtbgnggkgmeagkaaGreatDoorMTopLines08
import Derived.Test.YtbgnggkgmeagkaaGreatDoorMTopLines11
import Derived.Test.YtbgnggkgmeagkaaGreatDoorMTopLines09
import Derived.Test.YtbgnggkgmeagkaaGreatDoorMTopLines10
import Derived.Deep.RegionHeld3
import Derived.Deep.CutRange
import Derived.Deep.LoopGhost
import Derived.Deep.CutBlock
set_option linter.unusedSimpArgs false
set_option linter.unusedVariables false
namespace Go.Proofs.YtbgnggkgmeagkaaGreatDoor
open Go.RowKit
attribute [local go_sem ↓] Go.wp_at_zero Go.wp_at_succ

theorem parts_cons {w : World} {size pb : Nat} {p : Part} {ps : List Part} (h0 : w.cell? ⟨pb, 0, none⟩ = some (.slice p.A p.n p.c)) (hr : Reads w w.heap.size size p.A p.n p.xs) (h1 : ∀ u ∈ p.xs, u.oneCell' = true)
    (h : ∀ k (hk : k < ps.length), w.cell? ⟨pb, k + 1, none⟩ = some (.slice ps[k].A ps[k].n ps[k].c) ∧ Reads w w.heap.size size ps[k].A ps[k].n ps[k].xs ∧ ∀ u ∈ ps[k].xs, u.oneCell' = true) : PartsAt w size pb (p :: ps) := by
  intro k hk
  cases k with
  | zero => exact ⟨h0, hr, h1⟩
  | succ k => exact h k (by simpa using hk)
def findParts (b : Nat) (A : Option Addr) (c : Nat) (xs : List Fld) : List Part := [⟨some ⟨b, 0, none⟩, 12, 12, fvs alw⟩, ⟨A, xs.length, c, fvs xs⟩]
theorem findParts_total (b : Nat) (A : Option Addr) (c : Nat) (xs : List Fld) : total (findParts b A c xs) = (tAll xs).length := by
  rw [tAll_len]
  simp [total, findParts]
theorem findParts_flat (b : Nat) (A : Option Addr) (c : Nat) (xs : List Fld) : flat (findParts b A c xs) = fvs (tAll xs) := by
  simp [flat, findParts, tAll, fvs_append]
theorem find_parts {w : World} {A : Option Addr} {c : Nat} {xs : List Fld} (h : Reads w w.heap.size 2 A xs.length (fvs xs)) (W : World)
    (hW : W = (w.alloc (.cells (fvs alw).toArray 41)).alloc (.cells #[.slice (some ⟨w.heap.size, 0, none⟩) 12 12, .slice A xs.length c] 22)) : PartsAt W 2 (w.heap.size + 1) (findParts w.heap.size A c xs) := by
  subst hW
  have hB : Blk ((w.alloc (.cells (fvs alw).toArray 41)).alloc (.cells #[.slice (some ⟨w.heap.size, 0, none⟩) 12 12, .slice A xs.length c] 22)) (w.heap.size + 1) 22 #[.slice (some ⟨w.heap.size, 0, none⟩) 12 12, .slice A xs.length c] := by
    have := Blk.new (w.alloc (.cells (fvs alw).toArray 41)) 22 #[.slice (some ⟨w.heap.size, 0, none⟩) 12 12, .slice A xs.length c]
    simpa using this
  refine parts_cons (hB.cell 0) ?_ (fvs_one _) fun k hk => ?_
  · exact ((alw_reads w).alloc (by simp) _).more (by simp)
  · have : k = 0 := by simpa using hk
    subst this
    exact ⟨hB.cell 1, ((h.alloc (Nat.le_refl _) _).alloc (by simp) _).more (by simp; omega), fvs_one _⟩

/-- What a search has come to, one place on. -/
theorem fnd_step {p : Fld → Bool} {l : List Fld} {k N : Nat} {x : Fld} (h : N = if fnd p l ≠ 0 then fnd p l else if p x then k + 1 else 0) :
    (fnd p l = 0 → p x = true → N = k + 1) ∧ (¬ fnd p l = 0 → N = fnd p l) ∧ (fnd p l = 0 → ¬ p x = true → N = 0) := by
  refine ⟨fun h1 h2 => by rw [h, if_neg (by omega), if_pos h2], fun h1 => by rw [h, if_pos h1], fun h1 h2 => by rw [h, if_neg (by omega), if_neg h2]⟩
theorem int_of_nat {a : Int} {N : Nat} (h : a = (N : Int)) : Value.int .i64 a = .int .i64 (N : Int) := by rw [h]
theorem isF_iff (f x : Fld) : isF f x = true ↔ x.1 = f.1 ∧ x.2 = f.2 := by simp [isF, Prod.ext_iff]
theorem isN_iff (f x : Fld) : isN f x = true ↔ x.1 = f.1 := by simp [isN]
theorem concat_find (A : Option Addr) (c : Nat) (xs : List Fld) (hl : xs.length ≤ 128) (b pb : Nat) (w : World) (hP : PartsAt w 2 pb (findParts b A c xs)) :
    Calls Tryz.prog 88 #[.slice (some ⟨pb, 0, none⟩) 2 2] w fun e w' => ∃ B d, e = .returned (.slice B (tAll xs).length d) ∧ (tAll xs).length ≤ d ∧ Reads w' w'.heap.size 2 B (tAll xs).length (fvs (tAll xs)) ∧ Below w.heap.size w w' := by
  have ht := findParts_total b A c xs
  have hx := tAll_len xs
  refine (concatF_any (findParts b A c xs) pb w hP (by rw [ht, hx]; omega) (by simp [findParts])).mono ?_
  rintro e w' ⟨v, he, hown, hb⟩
  rw [ht, findParts_flat] at hown
  rcases hown.2 with ⟨_, h0⟩ | ⟨g, cap, cur, hv, _, _, hc, _⟩
  · omega
  · subst hv
    exact ⟨_, _, he, hc, reads_own hown, hb⟩
set_option maxRecDepth 100000 in
set_option maxHeartbeats 4000000 in
theorem find_any {w : World} {g : Nat} {A : Option Addr} {c : Nat} {xs : List Fld} {mx : Nat} (h : Tab w g A c xs mx) (f : Fld) (hf : fOk f) :
    Calls Tryz.prog 42 #[.pointer (some ⟨g, 0, none⟩), .agg #[.string ⟨f.1.toArray⟩, .string ⟨f.2.toArray⟩]] w fun e w' =>
      e = .returned (.tuple #[.int .i64 ((fnd (isF f) (tAll xs) : Nat) : Int), .int .i64 ((fnd (isN f) (tAll xs) : Nat) : Int)]) ∧ Below w.heap.size w w' := by
  obtain ⟨_, _, hl⟩ := h.cap
  obtain ⟨T, hTe⟩ : ∃ T, tAll xs = T := ⟨_, rfl⟩
  have hTl2 : T.length ≤ 140 := by rw [← hTe, tAll_len]; omega
  have hTp : 0 < T.length := by rw [← hTe, tAll_len]; omega
  rw [hTe]
  have HTe := Lib.hid hTe
  clear hTe
  have hbx := (Below.refl w.heap.size w).alloc (Nat.le_refl _) (.cells #[.string ⟨f.1.toArray⟩, .string ⟨f.2.toArray⟩] 41)
  have hT := h.below hbx
  obtain ⟨c0, _, _⟩ := hT.cells
  have hP := find_parts (reads_own hT.own) (c := c) _ rfl
  simp only [World.size_alloc] at hP
  have HP : Hid (PartsAt ((((w.alloc (.cells #[.string ⟨f.1.toArray⟩, .string ⟨f.2.toArray⟩] 41)).alloc (.cells (fvs alw).toArray 41)).alloc (.cells #[.slice (some ⟨w.heap.size + 1, 0, none⟩) 12 12, .slice A xs.length c] 22)).drew) 2 (w.heap.size + 1 + 1) (findParts (w.heap.size + 1) A c xs)) := hP
  have hg := hT.blk.lt
  clear h hT hP hbx
  go_enter Tryz.func42, Tryz.ntmps42
  go_wp2
  go_region_held3 (fun w' => w'.cell? ⟨g, 0, none⟩ = some (.slice A xs.length c)) (first | go_keep | (exact cell_behind hb3 ‹_›)) (first | (go_at_call 89; refine (always_any _).mono ?_; rintro e w' ⟨rfl, rfl⟩) | (go_at_call 88; ((with_reducible refine (concat_find A c xs hl (w.heap.size + 1) _ _ ?hP).mono ?_); (case hP => exact HP.out)); rintro e w3 ⟨B, d, rfl, hd, hr, hb3⟩))
  all_goals
    have hBx : Blk w3 w.heap.size 41 #[.string ⟨f.1.toArray⟩, .string ⟨f.2.toArray⟩] := ((((Blk.new w _ _).alloc _).alloc _).drew).below hb3 (by simp; omega)
    have q0 := hBx.cell 0
    have q1 := hBx.cell 1
    simp only [List.getElem?_toArray, List.getElem?_cons_zero, List.getElem?_cons_succ] at q0 q1
    clear hBx
    have hsz := hb3.size
    simp only [World.size_drew, World.size_alloc] at hsz
    rw [HTe.out] at hr hd
    rw [HTe.out]
    obtain ⟨b, off, rfl, hbB, hcl⟩ := reads_fld hr hTp
    have HCL := Lib.hid hcl
    have hbx : Below w.heap.size w ((((w.alloc (.cells #[.string ⟨f.1.toArray⟩, .string ⟨f.2.toArray⟩] 41)).alloc (.cells (fvs alw).toArray 41)).alloc (.cells #[.slice (some ⟨w.heap.size + 1, 0, none⟩) 12 12, .slice A xs.length c] 22)).drew) :=
      ((((Below.refl w.heap.size w).alloc (Nat.le_refl _) _).alloc (by simp) _).alloc (by simp; omega) _).drew
    have HB := Lib.hid (hbx.trans (hb3.mono (by simp; omega)))
    clear hcl hr hb3 hbx
    go_wp2
    go_loopw [4, 5, 16] (fun u v i wr => ∃ k : Nat, k ≤ T.length ∧ i = .int .i64 (k : Int) ∧ u = .int .i64 ((fnd (isF f) (T.take k) : Nat) : Int) ∧ v = .int .i64 ((fnd (isN f) (T.take k) : Nat) : Int) ∧ Hid (Below w3.heap.size w3 wr)) (fun _ _ i _ => T.length - (intOf i).toNat)
    case atStart => exact ⟨0, Nat.zero_le _, rfl, rfl, rfl, Below.refl _ _⟩
    case round =>
      obtain ⟨k, hk, rfl, rfl, rfl, HW⟩ := hrel
      by_cases hlt : k < T.length
      · have hFs := fnd_take_succ (isF f) T k hlt
        have hNs := fnd_take_succ (isN f) T k hlt
        obtain ⟨e1, e2⟩ := HCL.out k hlt
        have r1 := cell_behind HW.out e1
        have r2 := cell_behind HW.out e2
        have p0 := cell_behind HW.out q0
        have p1 := cell_behind HW.out q1
        have hbw := HW.out.size
        have hsw : w.heap.size < wr.heap.size := World.block_lt_of_cell? wr _ p0
        have HFS := Lib.hid hFs
        have HNS := Lib.hid hNs
        clear hFs hNs e1 e2
        generalize T[k] = x at *
        obtain ⟨F1, F2, F3⟩ := fnd_step HFS.out
        obtain ⟨N1, N2, N3⟩ := fnd_step HNS.out
        rw [isF_iff] at F1 F3
        rw [isN_iff] at N1 N3
        replace F1 := Lib.hid F1
        replace F2 := Lib.hid F2
        replace F3 := Lib.hid F3
        replace N1 := Lib.hid N1
        replace N2 := Lib.hid N2
        replace N3 := Lib.hid N3
        go_wp2
        all_goals
          go_roundw
          case rel =>
            refine ⟨k + 1, by omega, by go_num, ?_, ?_, HW.out.alloc hbw _⟩
            · apply int_of_nat
              first
                | (rw [F1.out ‹_› ⟨‹_›, ‹_›⟩]; omega)
                | (rw [F2.out ‹_›])
                | (rw [F3.out ‹_› (fun hh => absurd hh.1 ‹_›)]; omega)
                | (rw [F3.out ‹_› (fun hh => absurd hh.2 ‹_›)]; omega)
            · apply int_of_nat
              first
                | (rw [N1.out ‹_› (by first | assumption | exact eq_of_beq ‹_›)]; omega)
                | (rw [N2.out ‹_›])
                | (rw [N3.out ‹_› (by first | assumption | exact ne_of_beq_false ‹_›)]; omega)
          case measure => simp [intOf]; omega
      · have hke : T.take k = T := List.take_of_length_le (by omega)
        rw [hke]
        have HK := Lib.hid hke
        have hbw := HW.out
        clear hke
        go_wp2
        go_ret2
        exact ⟨rfl, HB.out.trans (hbw.mono (by omega))⟩
end Go.Proofs.YtbgnggkgmeagkaaGreatDoor
namespace Go.Proofs.YtbgnggkgmeagkaaGreatDoor
open Go.RowKit
variable {qo : Value × Value × Value}

theorem nextL_snoc (mx : Nat) (xs l : List Fld) (f : Fld) : nextL mx xs (l ++ [f]) = nextF mx (nextL mx xs l) f := by
  induction l generalizing xs with
  | nil => rfl
  | cons x l ih => exact ih _
theorem saidL_snoc (mx : Nat) (xs l : List Fld) (f : Fld) : saidL mx xs (l ++ [f]) = saidL mx xs l ++ saidF mx (nextL mx xs l) f := by
  induction l generalizing xs with
  | nil => simp [saidL, nextL]
  | cons x l ih =>
    show saidF mx xs x ++ saidL mx (nextF mx xs x) (l ++ [f]) = _
    rw [ih]
    simp [saidL, nextL]
theorem nextL_take (mx : Nat) (xs l : List Fld) (k : Nat) (h : k < l.length) : nextL mx xs (l.take (k + 1)) = nextF mx (nextL mx xs (l.take k)) l[k] := by rw [List.take_succ_eq_append_getElem h, nextL_snoc]
theorem saidL_take (mx : Nat) (xs l : List Fld) (k : Nat) (h : k < l.length) : saidL mx xs (l.take (k + 1)) = saidL mx xs (l.take k) ++ saidF mx (nextL mx xs (l.take k)) l[k] := by rw [List.take_succ_eq_append_getElem h, saidL_snoc]
theorem putL_len (n : Nat) (t f : Int) (h : n ≤ 2147483647) : (putL (n : Nat) t f).length ≤ 1000 := by
  unfold putL
  split
  · have := putN_len6 (n : Int).toNat t.toNat (by omega) f.toNat
    omega
  · simp
theorem txtL_len (s : List UInt8) : (txtL s).length ≤ 1500 := by
  unfold txtL
  split
  · simp
  · have h1 := txtC_le s
    have h2 := putL_len (txtC s).length 7 (txtF s) (by omega)
    rw [List.length_append]
    omega
theorem saidF_len (mx : Nat) (xs : List Fld) (f : Fld) (h : xs.length ≤ 4096) : (saidF mx xs f).length ≤ 5000 := by
  have h1 := fnd_le (isF f) (tAll xs)
  have h2 := fnd_le (isN f) (tAll xs)
  rw [tAll_len] at h1 h2
  have h3 := putL_len (fnd (isF f) (tAll xs)) 7 128 (by omega)
  have h4 := putL_len (fnd (isN f) (tAll xs)) 6 64 (by omega)
  have h5 := txtL_len f.1
  have h6 := txtL_len f.2
  unfold saidF
  split
  · omega
  · split
    · simp only [List.length_append]
      omega
    · simp only [List.length_append, List.length_nil]
      omega

/-- Where Encode's loop stands: the coder, the writer. -/
def EncAt (w wr : World) (C g : Nat) (A : Option Addr) (Sv : Value) (G : Nat) (xs : List Fld) (mx : Nat) (b : List UInt8) (qo : Value × Value × Value) : Prop :=
  ∃ A' c' v, COut wr C g A' c' (.slice none 0 0) xs mx [] qo ∧ Wr wr G v b ∧ Keep (oOwn C g A Sv) w wr ∧ (∀ k, oOwn C g A' (.slice none 0 0) k → oOwn C g A Sv k ∨ w.heap.size ≤ k) ∧ (∀ k, wOwn G v k → w.heap.size ≤ k) ∧ ∀ k, wOwn G v k → ¬ oOwn C g A' (.slice none 0 0) k
section
variable {w wr w1 : World} {C g G mx : Nat} {A : Option Addr} {Sv : Value} {xs : List Fld} {b : List UInt8}
theorem EncAt.next (h : EncAt w wr C g A Sv G xs mx b qo) (hb : Below wr.heap.size wr w1) : EncAt w w1 C g A Sv G xs mx b qo := by
  obtain ⟨A', c', v, h1, h2, h3, h4, h5, h6⟩ := h
  exact ⟨A', c', v, h1.below hb, h2.keep (S := fun _ => False) (Keep.of_below hb) (fun _ _ h => h), h3.trans (Keep.of_below (S := fun _ => False) hb) (fun i hi => hi.elim), h4, h5, h6⟩
theorem EncAt.cells (h : EncAt w wr C g A Sv G xs mx b qo) : wr.cell? ⟨C, 0, none⟩ = some (.pointer (some ⟨g, 0, none⟩)) ∧ xs.length ≤ 128 ∧ C < wr.heap.size ∧ w.heap.size ≤ wr.heap.size := by
  obtain ⟨A', c', v, ⟨hb, ht, _⟩, h2, h3, h4, h5, h6⟩ := h
  exact ⟨hb.cell 0, ht.cap.2.2, hb.lt, h3.size⟩
theorem enc_wrote {A' : Option Addr} {c' : Nat} {v : Value} (h1 : COut wr C g A' c' (.slice none 0 0) xs mx [] qo) (h3 : Keep (oOwn C g A Sv) w wr) (h4 : ∀ k, oOwn C g A' (.slice none 0 0) k → oOwn C g A Sv k ∨ w.heap.size ≤ k) (h5 : ∀ k, wOwn G v k → w.heap.size ≤ k) (h6 : ∀ k, wOwn G v k → ¬ oOwn C g A' (.slice none 0 0) k) {w' : World} {b' : List UInt8} (hw : Wrote wr w' G v b') : EncAt w w' C g A Sv G xs mx b' qo ∧ wr.heap.size ≤ w'.heap.size := by
  obtain ⟨v', h7, h8, h9⟩ := hw
  refine ⟨⟨A', c', v', h1.keep h8 fun k hk hs => h6 k hs hk, h7, h3.trans h8 fun i hi => .inr (h5 i hi), h4, fun k hk => ?_, fun k hk => ?_⟩, h8.size⟩
  · rcases h9 k hk with h | h
    · exact h5 k h
    · exact Nat.le_trans h3.size h
  · rcases h9 k hk with h | h
    · exact h6 k h
    · intro ho
      have := h1.lt k ho
      omega
theorem enc_num (h : EncAt w wr C g A Sv G xs mx b qo) (n bits first : Int) (hl : b.length + (putL n bits first).length ≤ 140737488355328) :
    Calls Tryz.prog 41 #[.pointer (some ⟨G, 0, none⟩), .int .i64 n, .int .i64 bits, .int .i64 first] wr fun e w' => e = .returned (.tuple #[]) ∧ EncAt w w' C g A Sv G xs mx (b ++ putL n bits first) qo ∧ wr.heap.size ≤ w'.heap.size := by
  obtain ⟨A', c', v, h1, h2, h3, h4, h5, h6⟩ := h
  refine (wnum_any h2 n bits first hl).mono ?_
  rintro e w' ⟨he, hw⟩
  exact ⟨he, enc_wrote h1 h3 h4 h5 h6 hw⟩
theorem enc_text (h : EncAt w wr C g A Sv G xs mx b qo) (s : List UInt8) (hs : s.length ≤ 140737488355328) (hl : b.length + (txtL s).length ≤ 140737488355328) :
    Calls Tryz.prog 43 #[.pointer (some ⟨G, 0, none⟩), .string ⟨s.toArray⟩] wr fun e w' => e = .returned (.tuple #[]) ∧ EncAt w w' C g A Sv G xs mx (b ++ txtL s) qo ∧ wr.heap.size ≤ w'.heap.size := by
  obtain ⟨A', c', v, h1, h2, h3, h4, h5, h6⟩ := h
  refine (wtext_any h2 s hs hl).mono ?_
  rintro e w' ⟨he, hw⟩
  exact ⟨he, enc_wrote h1 h3 h4 h5 h6 hw⟩
theorem enc_find (h : EncAt w wr C g A Sv G xs mx b qo) (f : Fld) (hf : fOk f) :
    Calls Tryz.prog 42 #[.pointer (some ⟨g, 0, none⟩), .agg #[.string ⟨f.1.toArray⟩, .string ⟨f.2.toArray⟩]] wr fun e w' =>
      e = .returned (.tuple #[.int .i64 ((fnd (isF f) (tAll xs) : Nat) : Int), .int .i64 ((fnd (isN f) (tAll xs) : Nat) : Int)]) ∧ Below wr.heap.size wr w' := by
  obtain ⟨A', c', v, h1, h2, h3, h4, h5, h6⟩ := h
  exact find_any h1.tab f hf
theorem enc_add (h : EncAt w wr C g A Sv G xs mx b qo) (f : Fld) (hf : fOk f) :
    Calls Tryz.prog 44 #[.pointer (some ⟨g, 0, none⟩), .agg #[.string ⟨f.1.toArray⟩, .string ⟨f.2.toArray⟩]] wr fun e w' => (∃ v, e = .returned v) ∧ EncAt w w' C g A Sv G (tAdd mx xs f) mx b qo ∧ wr.heap.size ≤ w'.heap.size := by
  obtain ⟨A', c', v, h1, h2, h3, h4, h5, h6⟩ := h
  have hne := h1.ne
  obtain ⟨hb, ht, hr⟩ := h1
  refine (add_any ht f hf).mono ?_
  rintro e w' ⟨he, A2, c2, h7, h8, h9⟩
  have hgo : ∀ k, wOwn G v k → k < wr.heap.size := fun k hk => h2.lt k hk
  refine ⟨⟨_, he⟩, ⟨A2, c2, v, ⟨hb.keep h8 hne.1, h7, World.ownsRow_nil _ _ _ _⟩, h2.keep h8 (fun k hk hs => h6 k hk (.inr (.inl hs))), h3.trans h8 fun i hi => h4 i (.inr (.inl hi)), ?_, h5, ?_⟩, h8.size⟩
  · rintro k (rfl | hk | hk)
    · exact h4 k (.inl rfl)
    · rcases h9 k hk with h | h
      · exact h4 k (.inr (.inl h))
      · exact .inr (Nat.le_trans h3.size h)
    · simp [Value.ownBlock] at hk
  · intro k hk
    rintro (rfl | ho | ho)
    · exact h6 _ hk (.inl rfl)
    · rcases h9 k ho with h | h
      · exact h6 k hk (.inr (.inl h))
      · have := hgo k hk
        omega
    · simp [Value.ownBlock] at ho
end
end Go.Proofs.YtbgnggkgmeagkaaGreatDoor
namespace Go.Proofs.YtbgnggkgmeagkaaGreatDoor
open Go.RowKit
attribute [local go_sem ↓] Go.wp_at_zero Go.wp_at_succ

theorem wt_nextF4 (mx : Nat) (xs : List Fld) (f : Fld) (hm : mx ≤ 4096) (h : wt xs ≤ 4096) : wt (nextF mx xs f) ≤ 4096 := by
  unfold nextF
  split
  · exact h
  · exact Nat.le_trans (wt_tAdd mx xs f) hm
theorem saidL_len (mx : Nat) (hm : mx ≤ 4096) : ∀ (l xs : List Fld), wt xs ≤ 4096 → (saidL mx xs l).length ≤ 5000 * l.length
  | [], xs, h => by simp [saidL]
  | f :: l, xs, h => by
    have h1 := saidL_len mx hm l (nextF mx xs f) (wt_nextF4 mx xs f hm h)
    have h2 := saidF_len mx xs f (by have := wt_len xs; omega)
    simp only [saidL, List.length_append, List.length_cons]
    omega
theorem saidP_len (ps : List Nat) (h : ∀ p ∈ ps, p ≤ 4096) : (saidP ps).length ≤ 2000 := by
  cases ps with
  | nil => simp [saidP]
  | cons p r =>
    have h0 := h p (by simp)
    have h1 := (leastP_le r p).1
    have h2 := h _ (List.getLast_mem (l := p :: r) (by simp))
    have h3 := putL_len (leastP p r) 5 32 (by omega)
    have h4 := putL_len ((p :: r).getLast (by simp)) 5 32 (by omega)
    simp only [saidP, List.length_append]
    split
    · omega
    · simp only [List.length_nil]
      omega
theorem tooLong_snoc (l : List Fld) (f : Fld) : tooLong (l ++ [f]) = (tooLong l || (decide (400 < f.1.length) || decide (400 < f.2.length))) := by simp [tooLong]
theorem tooLong_take (l : List Fld) (k : Nat) (h : k < l.length) : tooLong (l.take (k + 1)) = (tooLong (l.take k) || (decide (400 < l[k].1.length) || decide (400 < l[k].2.length))) := by rw [List.take_succ_eq_append_getElem h, tooLong_snoc]
theorem tooLong_each {l : List Fld} (h : tooLong l = false) : ∀ f ∈ l, f.1.length ≤ 400 ∧ f.2.length ≤ 400 := by
  intro f hf
  have := List.any_eq_false.1 h f hf
  simp at this
  omega
theorem len_gt {n : Nat} (h : 400 < n) : (400 : Int) < ((n : Nat) : Int) ∧ decide ((400 : Int) < ((n : Nat) : Int)) = true := by
  have : (400 : Int) < ((n : Nat) : Int) := by omega
  exact ⟨this, decide_eq_true this⟩
theorem len_le {n : Nat} (h : n ≤ 400) : ¬ (400 : Int) < ((n : Nat) : Int) ∧ decide ((400 : Int) < ((n : Nat) : Int)) = false := by
  have : ¬ (400 : Int) < ((n : Nat) : Int) := by omega
  exact ⟨this, decide_eq_false this⟩

set_option maxRecDepth 100000 in
set_option maxHeartbeats 4000000 in
theorem cenc_much (C : Nat) (l : List Fld) (hf : ∀ f ∈ l, fOk f) (hm : l.length ≤ 140737488355328) (hE : tooMuch l = true) (LA : Option Addr) (n lc : Nat) (hn : n = l.length) (w : World) (hr : Reads w w.heap.size 2 LA l.length (fvs l)) :
    Calls Tryz.prog 10 #[.pointer (some ⟨C, 0, none⟩), .slice LA n lc] w fun e w' => e = .returned (.tuple #[.slice none 0 0, .iface 95 (.int .i64 4)]) ∧ Below w.heap.size w w' := by
  subst hn
  have HE := Lib.hid hE
  clear hE
  go_enter Tryz.func10, Tryz.ntmps10
  go_wp2_with fail
  refine (full_any l hf hm LA _ lc rfl w hr).mono ?_
  rintro e w1 ⟨rfl, hb1⟩
  rw [HE.out]
  go_wp2
  go_ret2
  exact ⟨rfl, hb1⟩
set_option maxRecDepth 100000 in
set_option maxHeartbeats 4000000 in
theorem cenc_long (C : Nat) (l : List Fld) (hf : ∀ f ∈ l, fOk f) (hm : l.length ≤ 140737488355328) (hE0 : tooMuch l = false) (hE : tooLong l = true) (LA : Option Addr) (n lc : Nat) (hn : n = l.length) (w : World) (hr : Reads w w.heap.size 2 LA l.length (fvs l)) :
    Calls Tryz.prog 10 #[.pointer (some ⟨C, 0, none⟩), .slice LA n lc] w fun e w' => e = .returned (.tuple #[.slice none 0 0, .iface 95 (.int .i64 4)]) ∧ Below w.heap.size w w' := by
  subst hn
  have HE := Lib.hid hE
  have HE0 := Lib.hid hE0
  have HR := Lib.hid hr
  clear hE hE0
  go_enter Tryz.func10, Tryz.ntmps10
  go_wp2_with fail
  refine (full_any l hf hm LA _ lc rfl w hr).mono ?_
  rintro e w1 ⟨rfl, hb1⟩
  rw [HE0.out]
  have HB1 := Lib.hid hb1
  clear hb1 hr
  go_wp2
  go_loopw [23] (fun i wr => ∃ k : Nat, k ≤ l.length ∧ i = .int .i64 (k : Int) ∧ Hid (tooLong (l.take k) = false) ∧ Hid (Below w.heap.size w wr)) (fun i _ => l.length - (intOf i).toNat)
  case atStart => exact ⟨0, Nat.zero_le _, rfl, by simp [tooLong, Hid], HB1.out⟩
  case round =>
    obtain ⟨k, hk, rfl, HT, HBr⟩ := hrel
    by_cases hlt : k < l.length
    · obtain ⟨b, off, rfl, hbB, hcl⟩ := reads_fld (HR.out.below HBr.out) (by omega)
      obtain ⟨e0, e1⟩ := hcl k hlt
      have hbr := Nat.lt_of_lt_of_le hbB HBr.out.size
      have hts := tooLong_take l k hlt
      rw [HT.out, Bool.false_or] at hts
      have HTS := Lib.hid hts
      have HB2 := Lib.hid (HBr.out.alloc HBr.out.size (.cells #[.string ⟨l[k].1.toArray⟩, .string ⟨l[k].2.toArray⟩] 41))
      clear hcl hts
      generalize l[k] = f at *
      by_cases h1 : 400 < f.1.length
      · obtain ⟨i1, i2⟩ := len_gt h1
        go_wp2
        go_ret2
        exact ⟨rfl, HB2.out⟩
      · obtain ⟨i1, i2⟩ := len_le (Nat.le_of_not_lt h1)
        by_cases h2 : 400 < f.2.length
        · obtain ⟨i3, i4⟩ := len_gt h2
          go_wp2
          go_ret2
          exact ⟨rfl, HB2.out⟩
        · obtain ⟨i3, i4⟩ := len_le (Nat.le_of_not_lt h2)
          have hnx : tooLong (l.take (k + 1)) = false := by rw [HTS.out]; simp [h1, h2]
          have HNX := Lib.hid hnx
          clear hnx h1 h2
          go_wp2
          go_roundw
          case rel => exact ⟨k + 1, by omega, by go_num, HNX.out, HB2.out⟩
          case measure => simp [intOf]; omega
    · have hke : l.take k = l := List.take_of_length_le (by omega)
      have := HT.out
      rw [hke, HE.out] at this
      cases this
theorem cenc_fault (C : Nat) (l : List Fld) (hf : ∀ f ∈ l, fOk f) (hm : l.length ≤ 140737488355328) (hE : saidE l ≠ 0) (LA : Option Addr) (n lc : Nat) (hn : n = l.length) (w : World) (hr : Reads w w.heap.size 2 LA l.length (fvs l)) :
    Calls Tryz.prog 10 #[.pointer (some ⟨C, 0, none⟩), .slice LA n lc] w fun e w' => e = .returned (.tuple #[.slice none 0 0, .iface 95 (.int .i64 4)]) ∧ Below w.heap.size w w' := by
  cases h1 : tooMuch l with
  | true => exact cenc_much C l hf hm h1 LA n lc hn w hr
  | false =>
    cases h2 : tooLong l with
    | true => exact cenc_long C l hf hm h1 h2 LA n lc hn w hr
    | false => simp [saidE, h1, h2] at hE
end Go.Proofs.YtbgnggkgmeagkaaGreatDoor
