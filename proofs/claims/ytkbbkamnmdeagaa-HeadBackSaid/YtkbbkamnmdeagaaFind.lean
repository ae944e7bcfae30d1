/-
  A table behind a pointer: the contract of Find. Condition: the field's texts' lengths.
-/
import Derived.Test.YtkbbkamnmdeagaaTable2
import Derived.Test.YtkbbkamnmdeagaaConcatF
namespace Go.Proofs.Ytkbbkamnmdeagaa
open Go.RowKit
attribute [local go_sem ↓] Go.wp_at_zero Go.wp_at_succ

theorem parts_cons {w : World} {size pb : Nat} {p : Part} {ps : List Part} (h0 : w.cell? ⟨pb, 0, none⟩ = some (.slice p.A p.n p.c)) (hr : Reads w w.heap.size size p.A p.n p.xs) (h1 : ∀ u ∈ p.xs, u.oneCell' = true)
    (h : ∀ k (hk : k < ps.length), w.cell? ⟨pb, k + 1, none⟩ = some (.slice ps[k].A ps[k].n ps[k].c) ∧ Reads w w.heap.size size ps[k].A ps[k].n ps[k].xs ∧ ∀ u ∈ ps[k].xs, u.oneCell' = true) : PartsAt w size pb (p :: ps) := by
  intro k hk
  cases k with
  | zero => exact ⟨h0, hr, h1⟩
  | succ k => exact h k (by simpa using hk)
def findParts (b : Nat) (A : Option Addr) (c : Nat) (xs : List Fld) : List Part := [⟨some ⟨b, 0, none⟩, 12, 12, fvs alw⟩, ⟨A, xs.length, c, fvs xs⟩]
theorem findParts_total (b : Nat) (A : Option Addr) (c : Nat) (xs : List Fld) : total (findParts b A c xs) = (tAll xs).length := by
  rw [tAll_len]
  simp [total, findParts]
theorem findParts_flat (b : Nat) (A : Option Addr) (c : Nat) (xs : List Fld) : flat (findParts b A c xs) = fvs (tAll xs) := by
  simp [flat, findParts, tAll, fvs_append]
theorem find_parts {w : World} {A : Option Addr} {c : Nat} {xs : List Fld} (h : Reads w w.heap.size 2 A xs.length (fvs xs)) (W : World)
    (hW : W = (w.alloc (.cells (fvs alw).toArray 40)).alloc (.cells #[.slice (some ⟨w.heap.size, 0, none⟩) 12 12, .slice A xs.length c] 34)) : PartsAt W 2 (w.heap.size + 1) (findParts w.heap.size A c xs) := by
  subst hW
  have hB : Blk ((w.alloc (.cells (fvs alw).toArray 40)).alloc (.cells #[.slice (some ⟨w.heap.size, 0, none⟩) 12 12, .slice A xs.length c] 34)) (w.heap.size + 1) 34 #[.slice (some ⟨w.heap.size, 0, none⟩) 12 12, .slice A xs.length c] := by
    have := Blk.new (w.alloc (.cells (fvs alw).toArray 40)) 34 #[.slice (some ⟨w.heap.size, 0, none⟩) 12 12, .slice A xs.length c]
    simpa using this
  refine parts_cons (hB.cell 0) ?_ (fvs_one _) fun k hk => ?_
  · exact ((alw_reads w).alloc (by simp) _).more (by simp)
  · have : k = 0 := by simpa using hk
    subst this
    exact ⟨hB.cell 1, ((h.alloc (Nat.le_refl _) _).alloc (by simp) _).more (by simp; omega), fvs_one _⟩

/-- What a search has come to, one place on. -/
theorem fnd_step {p : Fld → Bool} {l : List Fld} {k N : Nat} {x : Fld} (h : N = if fnd p l ≠ 0 then fnd p l else if p x then k + 1 else 0) :
    (fnd p l = 0 → p x = true → N = k + 1) ∧ (¬ fnd p l = 0 → N = fnd p l) ∧ (fnd p l = 0 → ¬ p x = true → N = 0) := by
  refine ⟨fun h1 h2 => by rw [h, if_neg (by omega), if_pos h2], fun h1 => by rw [h, if_pos h1], fun h1 h2 => by rw [h, if_neg (by omega), if_neg h2]⟩
theorem int_of_nat {a : Int} {N : Nat} (h : a = (N : Int)) : Value.int .i64 a = .int .i64 (N : Int) := by rw [h]
theorem isF_iff (f x : Fld) : isF f x = true ↔ x.1 = f.1 ∧ x.2 = f.2 := by simp [isF, Prod.ext_iff]
theorem isN_iff (f x : Fld) : isN f x = true ↔ x.1 = f.1 := by simp [isN]
theorem concat_find (A : Option Addr) (c : Nat) (xs : List Fld) (hl : xs.length ≤ 128) (b pb : Nat) (w : World) (hP : PartsAt w 2 pb (findParts b A c xs)) :
    Calls Try.prog 31 #[.slice (some ⟨pb, 0, none⟩) 2 2] w fun e w' => ∃ B d, e = .returned (.slice B (tAll xs).length d) ∧ (tAll xs).length ≤ d ∧ Reads w' w'.heap.size 2 B (tAll xs).length (fvs (tAll xs)) ∧ Below w.heap.size w w' := by
  have ht := findParts_total b A c xs
  have hx := tAll_len xs
  refine (concatF_any (findParts b A c xs) pb w hP (by rw [ht, hx]; omega) (by simp [findParts])).mono ?_
  rintro e w' ⟨v, he, hown, hb⟩
  rw [ht, findParts_flat] at hown
  rcases hown.2 with ⟨_, h0⟩ | ⟨g, cap, cur, hv, _, _, hc, _⟩
  · omega
  · subst hv
    exact ⟨_, _, he, hc, reads_own hown, hb⟩
set_option maxRecDepth 100000 in
set_option maxHeartbeats 4000000 in
theorem find_any {w : World} {g : Nat} {A : Option Addr} {c : Nat} {xs : List Fld} {mx : Nat} (h : Tab w g A c xs mx) (f : Fld) (hf : fOk f) :
    Calls Try.prog 17 #[.pointer (some ⟨g, 0, none⟩), .agg #[.string ⟨f.1.toArray⟩, .string ⟨f.2.toArray⟩]] w fun e w' =>
      e = .returned (.tuple #[.int .i64 ((fnd (isF f) (tAll xs) : Nat) : Int), .int .i64 ((fnd (isN f) (tAll xs) : Nat) : Int)]) ∧ Below w.heap.size w w' := by
  obtain ⟨_, _, hl⟩ := h.cap
  obtain ⟨T, hTe⟩ : ∃ T, tAll xs = T := ⟨_, rfl⟩
  have hTl2 : T.length ≤ 140 := by rw [← hTe, tAll_len]; omega
  have hTp : 0 < T.length := by rw [← hTe, tAll_len]; omega
  rw [hTe]
  have HTe := Lib.hid hTe
  clear hTe
  have hbx := (Below.refl w.heap.size w).alloc (Nat.le_refl _) (.cells #[.string ⟨f.1.toArray⟩, .string ⟨f.2.toArray⟩] 40)
  have hT := h.below hbx
  obtain ⟨c0, _, _⟩ := hT.cells
  have hP := find_parts (reads_own hT.own) (c := c) _ rfl
  simp only [World.size_alloc] at hP
  have HP : Hid (PartsAt ((((w.alloc (.cells #[.string ⟨f.1.toArray⟩, .string ⟨f.2.toArray⟩] 40)).alloc (.cells (fvs alw).toArray 40)).alloc (.cells #[.slice (some ⟨w.heap.size + 1, 0, none⟩) 12 12, .slice A xs.length c] 34)).drew) 2 (w.heap.size + 1 + 1) (findParts (w.heap.size + 1) A c xs)) := hP
  have hg := hT.blk.lt
  clear h hT hP hbx
  go_enter Try.func17, Try.ntmps17
  go_wp2
  go_region_held3 (fun w' => w'.cell? ⟨g, 0, none⟩ = some (.slice A xs.length c)) (first | go_keep | (exact cell_behind hb3 ‹_›)) (first | (go_at_call 30; refine (always_any _).mono ?_; rintro e w' ⟨rfl, rfl⟩) | (go_at_call 31; ((with_reducible refine (concat_find A c xs hl (w.heap.size + 1) _ _ ?hP).mono ?_); (case hP => exact HP.out)); rintro e w3 ⟨B, d, rfl, hd, hr, hb3⟩))
  all_goals
    have hBx : Blk w3 w.heap.size 40 #[.string ⟨f.1.toArray⟩, .string ⟨f.2.toArray⟩] := ((((Blk.new w _ _).alloc _).alloc _).drew).below hb3 (by simp; omega)
    have q0 := hBx.cell 0
    have q1 := hBx.cell 1
    simp only [List.getElem?_toArray, List.getElem?_cons_zero, List.getElem?_cons_succ] at q0 q1
    clear hBx
    have hsz := hb3.size
    simp only [World.size_drew, World.size_alloc] at hsz
    rw [HTe.out] at hr hd
    rw [HTe.out]
    obtain ⟨b, off, rfl, hbB, hcl⟩ := reads_fld hr hTp
    have HCL := Lib.hid hcl
    have hbx : Below w.heap.size w ((((w.alloc (.cells #[.string ⟨f.1.toArray⟩, .string ⟨f.2.toArray⟩] 40)).alloc (.cells (fvs alw).toArray 40)).alloc (.cells #[.slice (some ⟨w.heap.size + 1, 0, none⟩) 12 12, .slice A xs.length c] 34)).drew) :=
      ((((Below.refl w.heap.size w).alloc (Nat.le_refl _) _).alloc (by simp) _).alloc (by simp; omega) _).drew
    have HB := Lib.hid (hbx.trans (hb3.mono (by simp; omega)))
    clear hcl hr hb3 hbx
    go_wp2
    go_loopw [4, 5, 16] (fun u v i wr => ∃ k : Nat, k ≤ T.length ∧ i = .int .i64 (k : Int) ∧ u = .int .i64 ((fnd (isF f) (T.take k) : Nat) : Int) ∧ v = .int .i64 ((fnd (isN f) (T.take k) : Nat) : Int) ∧ Hid (Below w3.heap.size w3 wr)) (fun _ _ i _ => T.length - (intOf i).toNat)
    case atStart => exact ⟨0, Nat.zero_le _, rfl, rfl, rfl, Below.refl _ _⟩
    case round =>
      obtain ⟨k, hk, rfl, rfl, rfl, HW⟩ := hrel
      by_cases hlt : k < T.length
      · have hFs := fnd_take_succ (isF f) T k hlt
        have hNs := fnd_take_succ (isN f) T k hlt
        obtain ⟨e1, e2⟩ := HCL.out k hlt
        have r1 := cell_behind HW.out e1
        have r2 := cell_behind HW.out e2
        have p0 := cell_behind HW.out q0
        have p1 := cell_behind HW.out q1
        have hbw := HW.out.size
        have hsw : w.heap.size < wr.heap.size := World.block_lt_of_cell? wr _ p0
        have HFS := Lib.hid hFs
        have HNS := Lib.hid hNs
        clear hFs hNs e1 e2
        generalize T[k] = x at *
        obtain ⟨F1, F2, F3⟩ := fnd_step HFS.out
        obtain ⟨N1, N2, N3⟩ := fnd_step HNS.out
        rw [isF_iff] at F1 F3
        rw [isN_iff] at N1 N3
        replace F1 := Lib.hid F1
        replace F2 := Lib.hid F2
        replace F3 := Lib.hid F3
        replace N1 := Lib.hid N1
        replace N2 := Lib.hid N2
        replace N3 := Lib.hid N3
        go_wp2
        all_goals
          go_roundw
          case rel =>
            refine ⟨k + 1, by omega, by go_num, ?_, ?_, HW.out.alloc hbw _⟩
            · apply int_of_nat
              first
                | (rw [F1.out ‹_› ⟨‹_›, ‹_›⟩]; omega)
                | (rw [F2.out ‹_›])
                | (rw [F3.out ‹_› (fun hh => absurd hh.1 ‹_›)]; omega)
                | (rw [F3.out ‹_› (fun hh => absurd hh.2 ‹_›)]; omega)
            · apply int_of_nat
              first
                | (rw [N1.out ‹_› (by first | assumption | exact eq_of_beq ‹_›)]; omega)
                | (rw [N2.out ‹_›])
                | (rw [N3.out ‹_› (by first | assumption | exact ne_of_beq_false ‹_›)]; omega)
          case measure => simp [intOf]; omega
      · have hke : T.take k = T := List.take_of_length_le (by omega)
        rw [hke]
        have HK := Lib.hid hke
        have hbw := HW.out
        clear hke
        go_wp2
        go_ret2
        exact ⟨rfl, HB.out.trans (hbw.mono (by omega))⟩
end Go.Proofs.Ytkbbkamnmdeagaa
