/-
  The reference's Split: its contract. Condition: the bound on the block's length.
-/
import Derived.Test.YtkbbkamnmdeagaaDoorSplit
import Derived.Test.YtkbbkamnmdeagaaDoorBytes
import Derived.Deep.CutRange
import Derived.Deep.LoopGhost
namespace Go.Proofs.YtkbbkamnmdeagaaDoor
open Go.RowKit

/-- The piece i of a block, as the reference hands it on. -/
def aR (A : Option Addr) (i : Nat) : Option Addr := if i = 0 then A else A.map (·.add (1024 * i))
def vR (A : Option Addr) (L c i : Nat) : Value := .slice (aR A i) (min 1024 (L - 1024 * i)) (c - 1024 * i)
def vsR (A : Option Addr) (L c k : Nat) : List Value := (List.range k).map (vR A L c)
theorem vsR_length (A : Option Addr) (L c k : Nat) : (vsR A L c k).length = k := by simp [vsR]
theorem vsR_snoc (A : Option Addr) (L c k : Nat) : vsR A L c (k + 1) = vsR A L c k ++ [vR A L c k] := by simp [vsR, List.range_succ]
theorem vsR_at (A : Option Addr) (L c k i : Nat) (h : i < k) : (vsR A L c k)[i]? = some (vR A L c i) := by simp [vsR, h]
theorem frm_tmp (W : World) (a b c : Int) (V : Value) : Reads (W.alloc (.cells #[.int .i64 a, .int .i64 b, .int .i64 c, V] 50)) (W.heap.size + 1) 4 (some ⟨W.heap.size, 0, none⟩) 1 [.int .i64 a, .int .i64 b, .int .i64 c, V] := by
  refine ⟨rfl, fun _ => ⟨_, rfl, Nat.lt_succ_self _, fun j u hu => ?_⟩⟩
  have h := (Blk.new W 50 #[.int .i64 a, .int .i64 b, .int .i64 c, V]).cell j
  rw [Addr.add_lit, Nat.zero_add, h]
  simpa using hu
theorem frm_one (a b c : Int) (A : Option Addr) (n m : Nat) : ∀ u ∈ [Value.int .i64 a, .int .i64 b, .int .i64 c, .slice A n m], u.oneCell' = true := by
  intro u hu
  simp only [List.mem_cons, List.not_mem_nil, or_false] at hu
  rcases hu with rfl | rfl | rfl | rfl <;> rfl
/-- A piece reads. -/
theorem vR_reads {w : World} {B c : Nat} {A : Option Addr} {block : List UInt8} (h : Reads w B 1 A block.length (bs block)) (i : Nat) (hi : i < max 1 (pieces block.length)) : ∃ A' c', vR A block.length c i = .slice A' (pcB block i).length c' ∧ Reads w B 1 A' (pcB block i).length (bs (pcB block i)) := by
  refine ⟨aR A i, c - 1024 * i, by rw [pcB_len]; rfl, ?_⟩
  by_cases h0 : i = 0
  · subst h0
    have h1 := h.take (k := (pcB block 0).length) (by rw [pcB_len]; omega)
    have e : (bs block).take (pcB block 0).length = bs (pcB block 0) := by
      rw [bs_take]
      congr 1
      rw [pcB_len]
      unfold pcB
      rcases Nat.le_total 1024 block.length with hh | hh
      · rw [Nat.mul_zero, Nat.sub_zero, Nat.min_eq_left hh, List.drop_zero]
      · rw [Nat.mul_zero, Nat.sub_zero, Nat.min_eq_right hh, List.drop_zero, List.take_of_length_le (Nat.le_refl _), List.take_of_length_le hh]
    rw [e] at h1
    simpa [aR] using h1
  · have hp : i < pieces block.length := by omega
    have := pc_reads h i hp
    simpa [aR, h0] using this

/-- What the reference's Split hands back. -/
def RSplat (w w' : World) (st : Int) (block : List UInt8) (fin : Bool) (A : Option Addr) (m : Nat) : Prop :=
  m = max 1 (pieces block.length) ∧ Below w.heap.size w w' ∧ ∃ g, A = some ⟨g, 0, none⟩ ∧ g < w'.heap.size ∧ ∀ i, i < m →
    ∃ A' c', w'.cell? ⟨g, 4 * i, none⟩ = some (.int .i64 (if i = 0 then 1 else 2)) ∧ w'.cell? ⟨g, 4 * i + 1, none⟩ = some (.int .i64 ((if i = 0 then (if fin then 1 else 0) else 0) + if i + 1 = m then 4 else 0)) ∧
      w'.cell? ⟨g, 4 * i + 2, none⟩ = some (.int .i64 st) ∧ w'.cell? ⟨g, 4 * i + 3, none⟩ = some (.slice A' (pcB block i).length c') ∧ Reads w' w'.heap.size 1 A' (pcB block i).length (bs (pcB block i))
/-- The cells of the row, and what comes of its marks. -/
theorem rsplat_end {w W : World} {st : Int} {block : List UInt8} {fin : Bool} {A : Option Addr} {c k g cp : Nat} (hk : k + 1 = max 1 (pieces block.length)) (hb : Below w.heap.size w W) (hr : Reads w w.heap.size 1 A block.length (bs block))
    (hrow : W.ownsRow w.heap.size 50 4 (.slice (some ⟨g, 0, none⟩) (k + 1) cp) (k + 1) (frs st (vsR A block.length c (k + 1)))) :
    RSplat w (marked W g k fin) st block fin (some ⟨g, 0, none⟩) (k + 1) ∧ W.cell? ⟨g, 0, none⟩ = some (.int .i64 2) ∧ W.cell? ⟨g, 1, none⟩ = some (.int .i64 0) ∧ W.cell? ⟨g, k * 4 + 1, none⟩ = some (.int .i64 0) ∧ (∀ j, W.frozen? ⟨g, j, none⟩ = false) ∧ g < W.heap.size := by
  have hcl : ∀ (i : Nat) (V : Value), (vsR A block.length c (k + 1))[i]? = some V → W.cell? ⟨g, 4 * i, none⟩ = some (.int .i64 2) ∧ W.cell? ⟨g, 4 * i + 1, none⟩ = some (.int .i64 0) ∧ W.cell? ⟨g, 4 * i + 2, none⟩ = some (.int .i64 st) ∧ W.cell? ⟨g, 4 * i + 3, none⟩ = some V := by
    intro i V hi
    obtain ⟨e0, e1, e2, e3⟩ := frs_at st _ i V hi
    have hc := hrow.cells rfl
    have key : ∀ j, (⟨g, 0, none⟩ : Addr).add j = ⟨g, j, none⟩ := fun j => by rw [Addr.add_lit, Nat.zero_add]
    have k0 := hc _ _ e0
    have k1 := hc _ _ e1
    have k2 := hc _ _ e2
    have k3 := hc _ _ e3
    rw [key] at k0 k1 k2 k3
    exact ⟨k0, k1, k2, k3⟩
  obtain ⟨cur, hblk, hBg⟩ : ∃ cur, Blk W g 50 cur ∧ w.heap.size ≤ g := by
    rcases hrow.2 with ⟨he, _⟩ | ⟨g', cap', cur, he, hb, hh, _⟩
    · cases he
    · cases he
      exact ⟨cur, hh, hb⟩
  have u0 := hcl 0 _ (vsR_at A block.length c (k + 1) 0 (by omega))
  have uk := hcl k _ (vsR_at A block.length c (k + 1) k (by omega))
  have hmb : Below w.heap.size w (marked W g k fin) := hb.grown (marked_grown W g k fin) hb.size (fun j e => by cases e; exact hBg)
  refine ⟨⟨hk, hmb, g, rfl, by rw [marked_size]; exact hblk.lt, fun i hi => ?_⟩, u0.1, u0.2.1, by rw [Nat.mul_comm]; exact uk.2.1, fun j => hblk.frozen j, hblk.lt⟩
  obtain ⟨m0, m1, m2, m3⟩ := marked_cells fin (vsR_length A block.length c (k + 1)) hcl i _ (vsR_at A block.length c (k + 1) i hi)
  obtain ⟨A', c', hv, hrd⟩ := vR_reads (c := c) (hr.below hmb) i (by omega)
  rw [hv] at m3
  exact ⟨A', c', m0, m1, m2, m3, hrd.more hmb.size⟩

set_option maxRecDepth 100000 in
set_option maxHeartbeats 4000000 in
theorem rsplit_any (st : Int) (block : List UInt8) (A : Option Addr) (c : Nat) (hm : block.length ≤ 140737488355328) (hcap : block.length ≤ c) (fin : Bool) (w : World) (hr : Reads w w.heap.size 1 A block.length (bs block)) :
    Calls Tryd.prog 39 #[.int .i64 st, .slice A block.length c, .bool fin] w fun e w' => ∃ A' m c', e = .returned (.slice A' m c') ∧ RSplat w w' st block fin A' m := by
  obtain ⟨i0, hi, hz0, hz1, hz2⟩ := info_parts frm_info
  have HI := Lib.hid hi
  have HZ0 := Lib.hid hz0
  have HZ1 := Lib.hid hz1
  have HZ2 := Lib.hid hz2
  have HR := Lib.hid hr
  have hL : block.length / 1024 * 1024 ≤ block.length := by omega
  clear hi hz0 hz1 hz2 hr
  go_enter Tryd.func39, Tryd.ntmps39
  go_wp2
  go_loopg [7, 1] block.length (fun n v bv wr => ∃ k : Nat, n + k = block.length ∧ (k = 0 ∨ 1024 * k < block.length) ∧ bv = .slice (aR A k) (block.length - 1024 * k) (c - 1024 * k) ∧ Hid (wr.ownsRow w.heap.size 50 4 v k (frs st (vsR A block.length c k))) ∧ Hid (Below w.heap.size w wr))
  case atStart => exact ⟨0, rfl, .inl rfl, by simp [aR], World.ownsRow_nil _ _ _ _, Below.refl _ _⟩
  case round =>
    obtain ⟨k, hk, hk0, rfl, HROW, HBr⟩ := hrel
    have hkb : k + 1 ≤ 200000000000 := by omega
    obtain ⟨M, hM⟩ : ∃ M, block.length - 1024 * k = M := ⟨_, rfl⟩
    obtain ⟨CC, hCC⟩ : ∃ CC, c - 1024 * k = CC := ⟨_, rfl⟩
    have hMC : M ≤ CC := by omega
    by_cases h : 1024 < M
    · obtain ⟨bb, off, rfl, hbb, -⟩ := HR.out.form (show 0 < block.length by omega)
      have haR : ∀ j, aR (some ⟨bb, off, none⟩) j = some ⟨bb, off + 1024 * j, none⟩ := fun j => by
        unfold aR
        by_cases hj : j = 0
        · subst hj
          simp
        · rw [if_neg hj, Option.map_some, Addr.add_lit]
      have hV : vR (some ⟨bb, off, none⟩) block.length c k = .slice (some ⟨bb, off + 1024 * k, none⟩) 1024 CC := by
        unfold vR
        rw [haR, hM, hCC, Nat.min_eq_left (by omega)]
      have haR1 := haR (k + 1)
      rw [hM, hCC, haR k]
      obtain ⟨P, hP⟩ : ∃ P, off + 1024 * k = P := ⟨_, rfl⟩
      rw [hP] at hV ⊢
      have hrt := HROW.out.alloc (.cells #[.int .i64 2, .int .i64 0, .int .i64 st, .slice (some ⟨bb, P, none⟩) 1024 CC] 50)
      have HOT := Lib.hid hrt
      have HBA := Lib.hid (HBr.out.alloc HBr.out.size (.cells #[.int .i64 2, .int .i64 0, .int .i64 st, .slice (some ⟨bb, P, none⟩) 1024 CC] 50))
      have HBT := Lib.hid (show w.heap.size ≤ (wr.alloc (.cells #[.int .i64 2, .int .i64 0, .int .i64 st, .slice (some ⟨bb, P, none⟩) 1024 CC] 50)).heap.size from HBA.out.size)
      have HV := Lib.hid hV
      have HM := Lib.hid (And.intro hM (And.intro hCC hP))
      have HA1 := Lib.hid haR1
      have hi1 : (1024 : Int) < ((M : Nat) : Int) := by omega
      have hi2 := decide_eq_true hi1
      have hne : ¬ CC = 1024 := by omega
      clear hM hCC hP hV haR haR1 hrt
      go_wp2_with (at_builtin; refine wpList_append_any _ rfl _ _ 67 rfl w.heap.size 50 i0 (.agg #[.int .i64 0, .int .i64 0, .int .i64 0, .slice none 0 0]) 4 48 Tryd.underlying67 HI.out HZ0.out HZ1.out HZ2.out rfl (by decide) _ _ _ rfl HOT.out (wr.heap.size + 1) (some ⟨wr.heap.size, 0, none⟩) 1 1 [.int .i64 2, .int .i64 0, .int .i64 st, .slice (some ⟨bb, P, none⟩) 1024 CC] rfl (frm_tmp wr 2 0 st (.slice (some ⟨bb, P, none⟩) 1024 CC)) (frm_one 2 0 st _ _ _) (by unfold maxLen; omega) (by omega) HBT.out ?_; intro v2 w5 hown2 hg2 hv2; have HOW := Lib.hid hown2; have HB5 := Lib.hid (HBA.out.grown hg2 HBA.out.size (fun j e => (HOT.out.lt j e).1)); clear hown2 hg2 hv2)
      go_roundg (gk - 1)
      case measure => have h2 := HM.out.1; omega
      case rel =>
        have h2 := HM.out
        have hM1 := h2.1
        refine ⟨k + 1, by omega, .inr (by omega), ?_, ?_, HB5.out⟩
        · rw [HA1.out]
          congr 1
          · congr 2
            omega
          · omega
          · omega
        · have h3 := HOW.out
          rw [vsR_snoc, HV.out, frs_snoc]
          exact h3
    · have hk1 : k + 1 = max 1 (pieces block.length) := by unfold pieces; omega
      have hV : vR A block.length c k = .slice (aR A k) M CC := by
        unfold vR
        rw [hM, hCC, Nat.min_eq_right (by omega)]
      rw [hM, hCC]
      obtain ⟨AK, hAK⟩ : ∃ AK, aR A k = AK := ⟨_, rfl⟩
      rw [hAK] at hV ⊢
      have hrt := HROW.out.alloc (.cells #[.int .i64 2, .int .i64 0, .int .i64 st, .slice AK M CC] 50)
      have HOT := Lib.hid hrt
      have HBA := Lib.hid (HBr.out.alloc HBr.out.size (.cells #[.int .i64 2, .int .i64 0, .int .i64 st, .slice AK M CC] 50))
      have HBT := Lib.hid (show w.heap.size ≤ (wr.alloc (.cells #[.int .i64 2, .int .i64 0, .int .i64 st, .slice AK M CC] 50)).heap.size from HBA.out.size)
      have HV := Lib.hid hV
      have HM := Lib.hid (And.intro hM (And.intro hCC hAK))
      have hi1 : ¬ (1024 : Int) < ((M : Nat) : Int) := by omega
      have hi2 := decide_eq_false hi1
      clear hM hCC hAK hV hrt
      have HK1 := Lib.hid hk1
      clear hk1
      go_upto_region 6 with (at_builtin; refine wpList_append_any _ rfl _ _ 67 rfl w.heap.size 50 i0 (.agg #[.int .i64 0, .int .i64 0, .int .i64 0, .slice none 0 0]) 4 48 Tryd.underlying67 HI.out HZ0.out HZ1.out HZ2.out rfl (by decide) _ _ _ rfl HOT.out (wr.heap.size + 1) (some ⟨wr.heap.size, 0, none⟩) 1 1 [.int .i64 2, .int .i64 0, .int .i64 st, .slice AK M CC] rfl (frm_tmp wr 2 0 st (.slice AK M CC)) (frm_one 2 0 st _ _ _) (by unfold maxLen; omega) (by omega) HBT.out ?_; intro v2 w5 hown2 hg2 hv2; have HOW := Lib.hid hown2; have HB5 := Lib.hid (HBA.out.grown hg2 HBA.out.size (fun j e => (HOT.out.lt j e).1)); clear hg2 hv2; obtain ⟨g, cp, rfl⟩ := ownsRow_succ hown2; clear hown2; have HRE := Lib.hid (rsplat_end (fin := fin) (c := c) (k := k) (g := g) (cp := cp) HK1.out HB5.out HR.out (by rw [vsR_snoc, HV.out, frs_snoc]; exact HOW.out)))
      obtain ⟨-, z0, z1, zk, fz, gl⟩ := HRE.out
      have fz0 := fz 0
      have fz1 := fz 1
      have fzk := fz (k * 4 + 1)
      obtain ⟨n, z, hn, hz0, hzn, hzt, hwn, hn0, hn1⟩ := k_wrap2 (k := k) (m := k + 1) rfl (by omega)
      have HRF := Lib.hid (show RSplat w (marked w5 g k fin) st block fin (some ⟨g, 0, none⟩) n by rw [hn]; exact HRE.out.1)
      rw [← hn]
      clear fz HOW HRE HB5 HOT HBA HBT HBr HROW HV HM hn HK1 hk hk0 hkb hMC h hi1 hi2
      rcases Nat.eq_zero_or_pos k with hk0 | hk0
      · subst hk0
        cases fin
        · as_aux_lemma =>
          go_wp2
          go_ret
          exact ⟨_, _, _, rfl, by have := HRF.out; simpa [marked] using this⟩
        · as_aux_lemma =>
          go_wp2
          go_ret
          exact ⟨_, _, _, rfl, by have := HRF.out; simpa [marked] using this⟩
      · obtain ⟨hk1, hk2⟩ := k_pos hk0
        have HKN := Lib.hid (And.intro hk1 hk2)
        clear hk0 hk1 hk2
        cases fin
        · as_aux_lemma =>
          have hsw : (w5.setCell ⟨g, 0, none⟩ (.int .i64 1)).cell? ⟨g, k * 4 + 1, none⟩ = some (.int .i64 0) := (set_far _ _ _ (Nat.succ_ne_zero _).symm).trans zk
          go_wp2
          go_ret
          exact ⟨_, _, _, rfl, by have := HRF.out; have h2 := HKN.out; simpa [marked, h2.1, Nat.mul_comm] using this⟩
        · as_aux_lemma =>
          have hsw : ((w5.setCell ⟨g, 0, none⟩ (.int .i64 1)).setCell ⟨g, 1, none⟩ (.int .i64 1)).cell? ⟨g, k * 4 + 1, none⟩ = some (.int .i64 0) := ((set_far _ _ _ HKN.out.2.symm).trans (set_far _ _ _ (Nat.succ_ne_zero _).symm)).trans zk
          go_wp2
          go_ret
          exact ⟨_, _, _, rfl, by have := HRF.out; have h2 := HKN.out; simpa [marked, h2.1, Nat.mul_comm] using this⟩
end Go.Proofs.YtkbbkamnmdeagaaDoor
