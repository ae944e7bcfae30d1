/-
  frame.Sets: its contract. Condition: the bound on how many settings there are.
-/
import Derived.Test.YtkbbkamnmdeagaaDoorSetLaw
import Derived.Test.YtkbbkamnmdeagaaDoorConcatB
import Derived.Test.YtkbbkamnmdeagaaDoorMem2
namespace Go.Proofs.YtkbbkamnmdeagaaDoor
open Go.RowKit

/-- The parts that Concat is handed. -/
def seParts (A0 : Option Addr) (c0 : Nat) (L : List UInt8) (A1 : Option Addr) (c1 : Nat) (a : List UInt8) (A2 : Option Addr) (c2 : Nat) (b : List UInt8) : List Part :=
  [⟨A0, L.length, c0, bs L⟩, ⟨A1, a.length, c1, bs a⟩, ⟨A2, b.length, c2, bs b⟩]
theorem seParts_flat (A0 : Option Addr) (c0 : Nat) (L : List UInt8) (A1 : Option Addr) (c1 : Nat) (a : List UInt8) (A2 : Option Addr) (c2 : Nat) (b : List UInt8) :
    total (seParts A0 c0 L A1 c1 a A2 c2 b) = (L ++ (a ++ b)).length ∧ flat (seParts A0 c0 L A1 c1 a A2 c2 b) = bs (L ++ (a ++ b)) := by
  constructor
  · simp [total, seParts]
  · simp only [flat, seParts, List.flatMap_cons, List.flatMap_nil, List.append_nil]
    rw [bs_append, bs_append]
theorem seParts_at {W : World} {A0 : Option Addr} {c0 : Nat} {L : List UInt8} {A1 : Option Addr} {c1 : Nat} {a : List UInt8} {A2 : Option Addr} {c2 : Nat} {b : List UInt8} {pb : Nat}
    (hp : Blk W pb 22 #[.slice A0 L.length c0, .slice A1 a.length c1, .slice A2 b.length c2]) (h0 : Reads W W.heap.size 1 A0 L.length (bs L)) (h1 : Reads W W.heap.size 1 A1 a.length (bs a)) (h2 : Reads W W.heap.size 1 A2 b.length (bs b)) :
    PartsAt W 1 pb (seParts A0 c0 L A1 c1 a A2 c2 b) := by
  intro k hk
  rcases k with _ | _ | _ | k
  · exact ⟨hp.cell 0, h0, bs_one _⟩
  · exact ⟨hp.cell 1, h1, bs_one _⟩
  · exact ⟨hp.cell 2, h2, bs_one _⟩
  · exfalso
    simp [seParts] at hk
    omega
theorem bigE_01 (n s : Int) : bigE n s = 0 ∨ bigE n s = 1 := by
  unfold bigE
  split
  · exact .inl rfl
  · exact .inr rfl
theorem sAll_le {l : List Pr} {k : Nat} (hk : k ≤ l.length) (h : ∀ p ∈ l.take k, sOk p) : (sAll (l.take k)).length ≤ 6 * l.length := by
  rw [sAll_length h, List.length_take]
  omega

set_option maxRecDepth 100000 in
set_option maxHeartbeats 4000000 in
theorem sets_any (l : List Pr) (A : Option Addr) (c : Nat) (hm : l.length ≤ 10000000000000) (w : World) (hr : Reads w w.heap.size 2 A l.length (pvs l)) :
    Calls Tryd.prog 41 #[.slice A l.length c] w fun e w' => ∃ A' c', e = .returned (.tuple #[.slice A' (setsB l).length c', errV (setsE l)]) ∧ Gave w w' (setsB l) A' c' := by
  have HR := Lib.hid hr
  have HM := Lib.hid hm
  have hm2 : l.length ≤ 9000000000000000 := by omega
  clear hr hm
  go_enter Tryd.func41, Tryd.ntmps41
  go_wp2
  go_loopw [4, 13] (fun v i wr => ∃ (k : Nat) (A1 : Option Addr) (c1 : Nat) (L : List UInt8), k ≤ l.length ∧ i = .int .i64 (k : Int) ∧ v = .slice A1 L.length c1 ∧ Hid (L = sAll (l.take k) ∧ (∀ p ∈ l.take k, sOk p) ∧ Gave w wr L A1 c1)) (fun _ i _ => l.length - (intOf i).toNat)
  case atStart => exact ⟨0, none, 0, [], Nat.zero_le _, rfl, rfl, by simp [sAll], by simp, gave_nil w⟩
  case round =>
    obtain ⟨k, A1, c1, L, hk, rfl, rfl, HH⟩ := hrel
    obtain ⟨w0, hw0⟩ : ∃ w0, wr = w0 := ⟨_, rfl⟩
    rw [hw0] at HH ⊢
    clear hw0
    have hb0s := HH.out.2.2.2.2.size
    by_cases hlt : k < l.length
    · obtain ⟨b, off, rfl, hbB, e0, e1⟩ := reads_pair (HR.out.below HH.out.2.2.2.2) hlt
      obtain ⟨p, hp⟩ : ∃ p, l[k] = p := ⟨_, rfl⟩
      have hpm : p ∈ l := by rw [← hp]; exact List.getElem_mem hlt
      have hsn := sAll_snoc l k hlt
      rw [hp] at e0 e1 hsn
      obtain ⟨x, y⟩ := p
      simp only at e0 e1
      have HP := Lib.hid hp
      have HPM := Lib.hid hpm
      have HSN := Lib.hid hsn
      obtain ⟨W1, hW1⟩ : ∃ W1, w0.alloc (.cells #[.int .i64 x, .int .i64 y] 69) = W1 := ⟨_, rfl⟩
      have hk1 : Blk W1 w0.heap.size 69 #[.int .i64 x, .int .i64 y] := by rw [← hW1]; exact Blk.new w0 _ _
      have hb1 : Below w0.heap.size w0 W1 := by rw [← hW1]; exact (Below.refl _ _).alloc (Nat.le_refl _) _
      have HB1 := Lib.hid hb1
      have HK1 := Lib.hid hk1
      have HW1 := Lib.hid hW1
      have hbr : b < w0.heap.size := Nat.lt_of_lt_of_le hbB hb0s
      clear hp hpm hsn hk1 hb1 hW1
      go_wp2_with fail
      rw [HW1.out]
      refine (wbig_any x 2 W1).mono ?_
      rintro e w2 ⟨A2, c2, rfl, hg2⟩
      have hk2 := HK1.out.below hg2.2.2 HK1.out.lt
      have q1 := hk2.cell 1
      have HG2 := Lib.hid hg2
      have hlt2 : w0.heap.size < w2.heap.size := hk2.lt
      clear hg2 hk2
      go_wp2_with fail
      refine (wbig_any y 4 w2).mono ?_
      rintro e w3 ⟨A3, c3, rfl, hg3⟩
      have HG3 := Lib.hid hg3
      have HB3 := Lib.hid (show Below w0.heap.size w0 w3 from (HB1.out.trans (HG2.out.2.2.mono HB1.out.size)).trans (hg3.2.2.mono (Nat.le_of_lt hlt2)))
      have HBw := Lib.hid (show Below w.heap.size w w3 from HH.out.2.2.2.2.trans (HB3.out.mono hb0s))
      clear hg3 q1 hlt2
      by_cases hE2 : bigE x 2 = 0
      · by_cases hE4 : bigE y 4 = 0
        · have HOK := Lib.hid (show sOk (x, y) from ⟨hE2, hE4⟩)
          rw [hE2, hE4, errV_zero]
          clear hE2 hE4
          obtain ⟨a, ha⟩ : ∃ a, bigL x 2 = a := ⟨_, rfl⟩
          obtain ⟨bb, hbb⟩ : ∃ bb, bigL y 4 = bb := ⟨_, rfl⟩
          rw [ha] at HG2 ⊢
          rw [hbb] at HG3 ⊢
          have HA := Lib.hid (And.intro ha hbb)
          obtain ⟨W4, hW4⟩ : ∃ W4, w3.alloc (.cells #[.slice A1 L.length c1, .slice A2 a.length c2, .slice A3 bb.length c3] 22) = W4 := ⟨_, rfl⟩
          have hk4 : Blk W4 w3.heap.size 22 #[.slice A1 L.length c1, .slice A2 a.length c2, .slice A3 bb.length c3] := by rw [← hW4]; exact Blk.new w3 _ _
          have hb4 : Below w3.heap.size w3 W4 := by rw [← hW4]; exact (Below.refl _ _).alloc (Nat.le_refl _) _
          have hB04 : Below w0.heap.size w0 W4 := HB3.out.trans (hb4.mono HB3.out.size)
          have hps := seParts_at hk4 ((HH.out.2.2.2.1.below hB04).more hB04.size) (((HG2.out.2.1.below HG3.out.2.2).more HG3.out.2.2.size).below hb4 |>.more hb4.size) ((HG3.out.2.1.below hb4).more hb4.size)
          have hfl := seParts_flat A1 c1 L A2 c2 a A3 c3 bb
          have hN : L ++ (a ++ bb) = sAll (l.take (k + 1)) := by
            rw [HSN.out, HH.out.1, ← ha, ← hbb]
            rfl
          have hall : ∀ q ∈ l.take (k + 1), sOk q := by
            intro q hq
            rw [List.take_succ_eq_append_getElem hlt, List.mem_append] at hq
            rcases hq with h | h
            · exact HH.out.2.1 q h
            · rw [List.mem_singleton.1 h, HP.out]
              exact HOK.out
          have hsz := sAll_le (k := k + 1) hlt hall
          rw [hN] at hfl
          have HPS := Lib.hid hps
          have HFL := Lib.hid hfl
          have HALL := Lib.hid hall
          have HB4 := Lib.hid (HBw.out.trans (hb4.mono HBw.out.size))
          have HTOT := Lib.hid (show total (seParts A1 c1 L A2 c2 a A3 c3 bb) * 1 ≤ 140737488355328 by rw [hfl.1]; have := HM.out; omega)
          have HCC := Lib.hid (concatB_any (seParts A1 c1 L A2 c2 a A3 c3 bb) w3.heap.size W4 HPS.out HTOT.out (by simp [seParts]))
          have HW4 := Lib.hid hW4
          clear ha hbb hW4 hk4 hb4 hB04 hps hfl hN hall hsz
          go_wp2_with fail
          rw [HW4.out]
          refine Calls.mono HCC.out ?_
          rintro e w5 ⟨v, rfl, hown, hb5⟩
          rw [HFL.out.1, HFL.out.2] at hown
          obtain ⟨A', c', rfl, hg⟩ := gave_of_own hown hb5
          have HG := Lib.hid (show Gave w w5 (sAll (l.take (k + 1))) A' c' from ⟨hg.1, hg.2.1, HB4.out.trans (hg.2.2.mono HB4.out.size)⟩)
          clear hown hb5 hg
          go_wp2
          go_roundw
          case rel => exact ⟨k + 1, A', c', _, hlt, by go_num, rfl, rfl, HALL.out, HG.out⟩
          case measure => simp [intOf]; omega
        · have hE4' : bigE y 4 = 1 := (bigE_01 y 4).resolve_left hE4
          have HE := Lib.hid (setsE_bad HPM.out (fun h => hE4 h.2))
          rw [hE2, hE4', errV_zero, errV_pos (show (1 : Nat) ≠ 0 by decide)]
          clear hE2 hE4 hE4'
          go_wp2
          go_ret2
          rw [HE.out, setsB_no (by rw [HE.out]; decide), errV_pos (show (1 : Nat) ≠ 0 by decide)]
          exact ⟨none, 0, rfl, Nat.le_refl _, Reads.none_, HBw.out⟩
      · have hE2' : bigE x 2 = 1 := (bigE_01 x 2).resolve_left hE2
        have HE := Lib.hid (setsE_bad HPM.out (fun h => hE2 h.1))
        rw [hE2', errV_pos (show (1 : Nat) ≠ 0 by decide)]
        clear hE2 hE2'
        go_wp2
        go_ret2
        rw [HE.out, setsB_no (by rw [HE.out]; decide), errV_pos (show (1 : Nat) ≠ 0 by decide)]
        exact ⟨none, 0, rfl, Nat.le_refl _, Reads.none_, HBw.out⟩
    · have hke : l.take k = l := List.take_of_length_le (by omega)
      rw [hke] at HH
      have hall := HH.out.2.1
      have hL : L.length = 6 * l.length := by rw [HH.out.1]; exact sAll_length hall
      obtain ⟨N, hN⟩ : ∃ N, L.length = N := ⟨_, rfl⟩
      have HG := Lib.hid HH.out
      rw [hN] at hL
      by_cases hbig : 1024 < N
      · have HE := Lib.hid (setsE_big hall (by rw [← hL]; exact hbig))
        have hi1 : (1024 : Int) < ((N : Nat) : Int) := by omega
        have hi2 := decide_eq_true hi1
        rw [hN]
        clear hL hN hall hke HH hb0s
        go_wp2
        go_ret2
        rw [HE.out, setsB_no (by rw [HE.out]; decide), errV_pos (show (4 : Nat) ≠ 0 by decide)]
        exact ⟨none, 0, rfl, Nat.le_refl _, Reads.none_, HG.out.2.2.2.2⟩
      · have HE := Lib.hid (setsE_ok hall (by rw [← hL]; exact hbig))
        have hi1 : ¬ (1024 : Int) < ((N : Nat) : Int) := by omega
        have hi2 := decide_eq_false hi1
        have HN := Lib.hid hN
        rw [hN]
        clear hL hN hall hke HH hb0s
        go_wp2
        go_ret2
        rw [HE.out, errV_zero, setsB_ok HE.out, ← HG.out.1, ← HN.out]
        exact ⟨A1, c1, rfl, HG.out.2.2⟩
end Go.Proofs.YtkbbkamnmdeagaaDoor
