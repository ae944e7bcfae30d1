/-
  The reference's Code by its contract. Condition: the bound on the text's length.
  The plain law of the reference's parse: its tests, in its order, tell what 'dec' tells. Condition: none.
-/
import Derived.Test.YtkbbkamnmdeagaaDoorMHeadPlays15
namespace Go.Proofs.YtkbbkamnmdeagaaDoor
open Go.RowKit

theorem pack_snoc8 : ∀ (n : Nat) (a c : List Bool), a.length = n → a.length % 8 = 0 → c.length = 8 → pack (a ++ c) = pack a ++ [UInt8.ofNat (val c)] := by
  intro n
  induction n using Nat.strongRecOn with
  | ind n ih =>
    intro a c hn h hc
    by_cases h0 : a.length = 0
    · have : a = [] := List.eq_nil_of_length_eq_zero h0
      subst this
      have := pack_chunk c [] hc
      rw [List.append_nil] at this
      rw [pack_nil, List.nil_append, List.nil_append, this, pack_nil]
    · have e : a = a.take 8 ++ a.drop 8 := (List.take_append_drop 8 a).symm
      have h8 : (a.take 8).length = 8 := by rw [List.length_take]; omega
      have hd : (a.drop 8).length = a.length - 8 := List.length_drop ..
      have e1 : pack a = UInt8.ofNat (val (a.take 8)) :: pack (a.drop 8) := by
        have := pack_chunk (a.take 8) (a.drop 8) h8
        rwa [← e] at this
      have e2 : pack (a ++ c) = UInt8.ofNat (val (a.take 8)) :: pack (a.drop 8 ++ c) := by
        have := pack_chunk (a.take 8) (a.drop 8 ++ c) h8
        rwa [← List.append_assoc, ← e] at this
      rw [e1, e2, ih (a.drop 8).length (by omega) (a.drop 8) c rfl (by omega) hc]
      rfl
theorem pack_take8 (L : List Bool) (k : Nat) (h : 8 * k + 8 ≤ L.length) : pack (L.take (8 * (k + 1))) = pack (L.take (8 * k)) ++ [UInt8.ofNat (val ((L.drop (8 * k)).take 8))] := by
  have e : L.take (8 * (k + 1)) = L.take (8 * k) ++ (L.drop (8 * k)).take 8 := by
    rw [show 8 * (k + 1) = 8 * k + 8 by omega, List.take_add]
  rw [e]
  exact pack_snoc8 _ _ _ rfl (by rw [List.length_take]; omega) (by rw [List.length_take, List.length_drop]; omega)
def slLen : Value → Nat | .slice _ n _ => n | _ => 0
theorem bb_at (L : List Bool) (k : Nat) (h : k < L.length) : (bs (bb L))[k]? = some (.int .u8 ((L[k].toNat : Nat) : Int)) := by
  simp only [bs, bb, List.map_map, List.getElem?_map, List.getElem?_eq_getElem h, Option.map_some, Function.comp]
  cases L[k] <;> rfl

set_option maxRecDepth 100000 in
set_option maxHeartbeats 4000000 in
theorem rcode_any (l : List UInt8) (hl : l.length ≤ 68719476736) (w : World) :
    Calls Tryd.prog 23 #[.string ⟨l.toArray⟩] w fun e w' => ∃ v, e = .returned v ∧ w'.ownsRow w.heap.size 5 1 v (enc l).length (bs (enc l)) ∧ Below w.heap.size w w' := by
  go_enter Tryd.func23, Tryd.ntmps23
  go_wp2_with fail
  refine (rbits_any l hl w).mono ?_
  rintro e w1 ⟨v1, rfl, hown1, hb1⟩
  have hel := encBits_le l
  have HENC : Hid (enc l = pack (encBits l ++ List.replicate (fill (encBits l).length) true)) := rfl
  have HEL := Lib.hid (enc_length l)
  have hfl : fill (encBits l).length ≤ 7 := by unfold fill; omega
  have hfm : ((encBits l).length + fill (encBits l).length) % 8 = 0 := by unfold fill; omega
  have HFU : Hid (∀ j, j ≤ fill (encBits l).length → ((encBits l).length + j) % 8 = 0 → j = fill (encBits l).length) := by
    intro j hj h8
    unfold fill at *
    omega
  generalize encBits l = E at *
  generalize fill E.length = F at *
  go_wp2_with fail
  go_loopw [3] (fun v wr => ∃ j : Nat, j ≤ F ∧ wr.ownsRow w.heap.size 5 1 v (E.length + j) (bs (bb (E ++ List.replicate j true))) ∧ Below w.heap.size w wr) (fun v _ => fill (slLen v))
  case atStart => exact ⟨0, Nat.zero_le _, by simpa using hown1, hb1⟩
  case round =>
    obtain ⟨j, hj, hownj, hbj⟩ := hrel
    clear hown1 hb1
    have hsz := hbj.size
    obtain ⟨A, c, rfl, hc, hrj⟩ := isBytes_of_own (l := bb (E ++ List.replicate j true)) (by rw [bb_length, List.length_append, List.length_replicate]; exact hownj)
    have hbl : (bb (E ++ List.replicate j true)).length = E.length + j := by rw [bb_length, List.length_append, List.length_replicate]
    rw [hbl] at hownj ⊢
    have HBL := Lib.hid hbl
    clear hbl
    by_cases h8 : (E.length + j) % 8 = 0
    · have hjF := HFU.out j hj h8
      subst hjF
      have hr0 := hrj
      rw [HBL.out] at hr0 hc
      have HR0 := Lib.hid hr0
      obtain ⟨M, hM⟩ : ∃ M, E.length + j = 8 * M := ⟨(E.length + j) / 8, by omega⟩
      have hLl : (E ++ List.replicate j true).length = 8 * M := by rw [List.length_append, List.length_replicate]; exact hM
      have HLL := Lib.hid hLl
      have hM36 : M ≤ 1099511627776 := by omega
      have HM := Lib.hid hM
      rw [hM] at hr0 hc ⊢
      have h8' : ((8 * (M : Int)) % 8 == 0) = true := by simp
      have HENC2 : Hid (enc l = pack ((E ++ List.replicate j true).take (8 * M))) := by
        show _ = _
        rw [HENC.out, List.take_of_length_le (by rw [HLL.out]; exact Nat.le_refl _)]
      have hM0 : M ≤ 77309411339 := by omega
      clear hownj hrj HR0 h8 hM hfm HENC hLl
      generalize hLL : E ++ List.replicate j true = L at *
      obtain ⟨wo, rfl⟩ : ∃ wo : World, wo = wr := ⟨_, rfl⟩
      go_wp2_with fail
      go_loopw [4, 5] (fun b i w2 => ∃ k : Nat, k ≤ M ∧ i = .int .i64 ((8 * k : Nat) : Int) ∧ w2.ownsRow wo.heap.size 5 1 b k (bs (pack (L.take (8 * k)))) ∧ Below wo.heap.size wo w2) (fun _ i _ => 8 * M - (intOf i).toNat)
      case atStart => exact ⟨0, Nat.zero_le _, by go_num, by rw [Nat.mul_zero, List.take_zero, pack_nil]; exact World.ownsRow_nil _ _ _ _, Below.refl _ _⟩
      case round =>
        obtain ⟨k, hk, rfl, hownb, hbb⟩ := hrel
        have hsb := hbb.size
        have hlw : wo.heap.size ≤ wr.heap.size := hsb
        by_cases hk8 : k < M
        · obtain ⟨b0, off, rfl, hbB, hcl⟩ := hr0.form (by omega)
          have hcl2 : ∀ q u, (bs (bb L))[q]? = some u → wr.cell? ⟨b0, off + q, none⟩ = some u := by
            intro q u h
            rw [hbb.cell (p := ⟨b0, off + q, none⟩) hbB]
            exact hcl q u h
          have HCL := Lib.hid hcl2
          clear hcl hcl2 hr0
          go_wp2_with fail
          go_loop [6, 7] (fun x i => ∃ m : Nat, m ≤ 8 ∧ i = .int .i64 m ∧ x = .int .i64 (val ((L.drop (8 * k)).take m) : Nat)) (fun _ i => 8 - (intOf i).toNat)
          case atStart => exact ⟨0, by omega, rfl, rfl⟩
          case round =>
            obtain ⟨m, hm8, rfl, rfl⟩ := hrel
            by_cases hm : m < 8
            · have hi : 8 * k + m < L.length := by rw [HLL.out]; omega
              have hcl := HCL.out (8 * k + m) _ (bb_at L (8 * k + m) hi)
              have hv : val ((L.drop (8 * k)).take (m + 1)) = 2 * val ((L.drop (8 * k)).take m) + (L[8 * k + m]).toNat := by
                rw [List.take_add_one, List.getElem?_drop, List.getElem?_eq_getElem hi]
                exact val_snoc _ _
              have hx : val ((L.drop (8 * k)).take m) < 256 := by
                have h1 := val_lt ((L.drop (8 * k)).take m)
                have h2 : ((L.drop (8 * k)).take m).length ≤ 8 := by rw [List.length_take]; omega
                have h3 : 2 ^ ((L.drop (8 * k)).take m).length ≤ 2 ^ 8 := Nat.pow_le_pow_right (by omega) h2
                omega
              have hbit : (L[8 * k + m]).toNat ≤ 1 := by cases L[8 * k + m] <;> decide
              have HV := Lib.hid hv
              generalize (L[8 * k + m]).toNat = bt at *
              clear hv hi
              generalize val ((L.drop (8 * k)).take m) = x at *
              have hi0 : (0 : Int) ≤ ((8 * k : Nat) : Int) + (m : Int) := by omega
              have hil : ((8 * k : Nat) : Int) + (m : Int) < ((8 * M : Nat) : Int) := by omega
              go_wp2
              go_roundw
              case rel =>
                refine ⟨m + 1, by omega, by go_num, ?_⟩
                rw [HV.out]
                go_num
              case measure => simp [intOf]; omega
            · have hm8 : m = 8 := by omega
              subst hm8
              go_wp2_with (at_builtin; refine wpList_push rfl _ _ rfl wo.heap.size _ _ _ rfl hownb rfl rfl (by omega) hsb ?_; intro v2 w2 hown2 hb2)
              have e1 : bs (pack (L.take (8 * k))) ++ [Value.int .u8 ((val ((L.drop (8 * k)).take 8) : Int) % 256)] = bs (pack (L.take (8 * (k + 1)))) := by
                rw [pack_take8 L k (by rw [HLL.out]; omega), bs_append]
                show _ = _ ++ [Value.int .u8 (((UInt8.ofNat (val ((L.drop (8 * k)).take 8))).toNat : Nat) : Int)]
                congr 1
              rw [e1] at hown2
              clear e1
              go_roundw
              case rel =>
                refine ⟨k + 1, by omega, by go_num, hown2, hbb.trans hb2⟩
              case measure => simp [intOf]; omega
        · have hkM : k = M := by omega
          subst hkM
          go_wp2
          go_ret
          refine ⟨_, rfl, ?_, hbj.trans (hbb.mono hsz)⟩
          have e : (enc l).length = k := by rw [HEL.out]; have := HM.out; omega
          rw [e, HENC2.out]
          exact own_mono hownb hsz
    · have h8' : ((((E.length : Nat) : Int) + (j : Int)) % 8 == 0) = false := by simp; omega
      have hjF : j + 1 ≤ F := by
        have h1 : j ≠ F := fun h => h8 (by rw [h]; exact hfm)
        omega
      clear hrj hc
      go_wp2_with (at_builtin; refine wpList_push rfl _ _ rfl w.heap.size _ _ _ rfl hownj rfl rfl (by omega) hsz ?_; intro v2 w2 hown2 hb2)
      have e1 : bs (bb (E ++ List.replicate j true)) ++ [Value.int .u8 1] = bs (bb (E ++ List.replicate (j + 1) true)) := by
        rw [List.replicate_succ', ← List.append_assoc, bb_append (E ++ List.replicate j true), bs_append, bs_bb_one]
        rfl
      rw [e1] at hown2
      clear e1
      have hs2 : slLen v2 = E.length + (j + 1) := by
        obtain ⟨A2, c2, rfl, _, _⟩ := isBytes_of_own (l := bb (E ++ List.replicate (j + 1) true)) (by rw [bb_length, List.length_append, List.length_replicate]; exact hown2)
        show (bb (E ++ List.replicate (j + 1) true)).length = _
        rw [bb_length, List.length_append, List.length_replicate]
      have HS2 := Lib.hid hs2
      clear hs2
      go_roundw
      case rel => exact ⟨j + 1, hjF, hown2, hbj.trans hb2⟩
      case measure =>
        rw [HS2.out]
        show fill (E.length + (j + 1)) < fill (E.length + j)
        unfold fill
        omega
end Go.Proofs.YtkbbkamnmdeagaaDoor
namespace Go.Proofs.YtkbbkamnmdeagaaDoor
open Go.RowKit

theorem drop_head (L : List Bool) (a : Nat) (h : a < L.length) : (L.drop a).head? = some L[a] := by
  rw [List.head?_drop, List.getElem?_eq_getElem h]
theorem not_all_false (L : List Bool) (a q : Nat) (haq : a ≤ q) (h : q < L.length) (h0 : L[q] = false) : ¬ ((L.drop a).length < 8 ∧ (L.drop a).all (fun b => b) = true) := by
  rintro ⟨_, h1⟩
  rw [List.all_eq_true] at h1
  have hm : L[q] ∈ L.drop a := by
    rw [List.mem_iff_getElem?]
    exact ⟨q - a, by rw [List.getElem?_drop, show a + (q - a) = q by omega, List.getElem?_eq_getElem h]⟩
  have := h1 _ hm
  rw [h0] at this
  cases this
theorem rd_often (L : List Bool) (a : Nat) (h : a + 6 ≤ L.length) (h0 : L[a] = false) :
    dec (L.drop a) = (dec (L.drop (a + 6))).map (often.getD (val ((L.drop (a + 1)).take 5)) 0 :: ·) := by
  have hl : (L.drop a).length = L.length - a := List.length_drop ..
  rw [dec_often (not_all_false L a a (Nat.le_refl _) (by omega) h0) (by omega) (by rw [drop_head L a (by omega), h0]), List.drop_drop, List.drop_drop]
theorem rd_rare (L : List Bool) (a : Nat) (h : a + 9 ≤ L.length) (h0 : L[a] = true) (hi : ¬ 0 ≤ oidx (UInt8.ofNat (val ((L.drop (a + 1)).take 8)))) :
    dec (L.drop a) = (dec (L.drop (a + 9))).map (UInt8.ofNat (val ((L.drop (a + 1)).take 8)) :: ·) := by
  have hl : (L.drop a).length = L.length - a := List.length_drop ..
  have hd : (L.drop a).drop 1 = L.drop (a + 1) := by rw [List.drop_drop]
  rw [dec_rare (l := L.drop a) (by omega) (by rw [drop_head L a (by omega), h0]; simp) (by rw [hd]; exact hi), hd, List.drop_drop]
theorem rd_bad (L : List Bool) (a : Nat) (h : a + 9 ≤ L.length) (h0 : L[a] = true) (hi : 0 ≤ oidx (UInt8.ofNat (val ((L.drop (a + 1)).take 8)))) :
    dec (L.drop a) = none := by
  have hl : (L.drop a).length = L.length - a := List.length_drop ..
  have hd : (L.drop a).drop 1 = L.drop (a + 1) := by rw [List.drop_drop]
  exact dec_bad (l := L.drop a) (by omega) (by rw [drop_head L a (by omega), h0]; simp) (by rw [hd]; exact hi)
theorem rd_long (L : List Bool) (a : Nat) (h : a < L.length) (h0 : ¬ (L[a] = false ∧ a + 6 ≤ L.length)) (h1 : ¬ (L[a] = true ∧ a + 9 ≤ L.length)) (h7 : 7 < L.length - a) : dec (L.drop a) = none := by
  have hl : (L.drop a).length = L.length - a := List.length_drop ..
  have hT : L[a] = true := by
    cases e : L[a] with
    | true => rfl
    | false => exact absurd ⟨e, by omega⟩ h0
  exact dec_cut (l := L.drop a) (by omega) (by omega) (by rw [drop_head L a h, hT]; simp) (by have : ¬ a + 9 ≤ L.length := fun h => h1 ⟨hT, h⟩; omega)
theorem rd_left_bad (L : List Bool) (a q : Nat) (h : a < L.length) (h0 : ¬ (L[a] = false ∧ a + 6 ≤ L.length)) (h7 : L.length - a ≤ 7) (haq : a ≤ q) (hq : q < L.length) (hqf : L[q] = false) : dec (L.drop a) = none := by
  have hl : (L.drop a).length = L.length - a := List.length_drop ..
  have hn := not_all_false L a q haq hq hqf
  by_cases h6 : (L.drop a).length < 6
  · exact dec_short hn h6
  · have hT : L[a] ≠ false := fun e => h0 ⟨e, by omega⟩
    exact dec_cut hn h6 (by rw [drop_head L a h]; simpa using hT) (by omega)
theorem rd_left (L : List Bool) (a : Nat) (h7 : L.length - a ≤ 7) (hall : ∀ q, a ≤ q → q < L.length → L[q]? = some true) : dec (L.drop a) = some [] := by
  have hl : (L.drop a).length = L.length - a := List.length_drop ..
  refine dec_ones (by omega) ?_
  rw [List.all_eq_true]
  intro b hb
  rw [List.mem_iff_getElem?] at hb
  obtain ⟨j, hj⟩ := hb
  rw [List.getElem?_drop] at hj
  have hlt : a + j < L.length := by
    rcases Nat.lt_or_ge (a + j) L.length with h | h
    · exact h
    · rw [List.getElem?_eq_none h] at hj; cases hj
  rw [hall (a + j) (by omega) hlt] at hj
  cases hj
  rfl
end Go.Proofs.YtkbbkamnmdeagaaDoor
