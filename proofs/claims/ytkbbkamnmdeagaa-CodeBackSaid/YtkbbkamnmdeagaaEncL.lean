/-
  code.Encode and code.Bits by their contracts. Condition: the bound on the text's length.
-/
import Derived.Test.YtkbbkamnmdeagaaRowGetL
import Derived.Lib.ConvBytes
namespace Go.Proofs.Ytkbbkamnmdeagaa
open Go.RowKit

/-- '[]byte(s)'. -/
theorem conv_bytes (W : World) (l : List UInt8) : ∃ c W', (convert 9 26 (.string ⟨l.toArray⟩)).run Try.prog W = .ok (.slice (some ⟨W.heap.size, 0, none⟩) l.length c) W' ∧
    l.length ≤ c ∧ Reads W' W'.heap.size 1 (some ⟨W.heap.size, 0, none⟩) l.length (bs l) ∧ Below W.heap.size W W' ∧ W'.heap.size = W.heap.size + 1 := by
  have h := Lib.run_convert_string_bytes (P := Try.prog) W 9 26 5 ⟨l.toArray⟩ Try.underlying9 Try.underlying26 Try.underlying5
  have hs : (ByteArray.mk l.toArray).size = l.length := rfl
  rw [hs] at h
  refine ⟨_, _, h, grownCap_ge _ _ _ _, ?_, ?_, Lib.bytesWorld_size _ _ _⟩
  · refine ⟨by simp [bs], fun _ => ⟨_, rfl, by rw [Lib.bytesWorld_size]; exact Nat.lt_succ_self _, fun j u hu => ?_⟩⟩
    have hj : j < l.length := by
      have := (List.getElem?_eq_some_iff.1 hu).1
      simpa [bs] using this
    rw [Addr.add_lit, Nat.zero_add, Lib.bytesWorld_cell _ _ _ _ (by rw [hs]; exact hj), ← hu, bs_at l hj]
    simp [hj]
  · refine ⟨?_, ?_, ?_, by rw [Lib.bytesWorld_size]; omega, fun k hk => Lib.bytesWorld_at_old _ _ _ k hk⟩
    all_goals simp [Lib.bytesWorld, World.freeze, World.alloc, World.drew, -World.alloc_eq, -World.drew_eq]

theorem idx_k (c : UInt8) (z : Int) (h : oidx c = z) (w : World) :
    Calls Try.prog 23 #[.string ⟨often.toArray⟩, .int .u8 (c.toNat : Int)] w fun e w' => e = .returned (.int .i64 z) ∧ w = w' := by
  rw [← h]
  exact idx_any c w
theorem own_mono {w : World} {B B' : Nat} {e : TypeId} {size n : Nat} {v : Value} {xs : List Value} (h : w.ownsRow B e size v n xs) (hB : B' ≤ B) : w.ownsRow B' e size v n xs := by
  obtain ⟨h1, h2⟩ := h
  refine ⟨h1, ?_⟩
  rcases h2 with h2 | ⟨g, cap, cur, hv, hg, r⟩
  · exact .inl h2
  · exact .inr ⟨g, cap, cur, hv, by omega, r⟩
theorem i64_or_256 (y : Nat) (h : y < 256) : bits .or .i64 256 (y : Int) = ((256 + y : Nat) : Int) := by
  have := i64_or_low 1 y 8 (by decide) (by omega) (by decide)
  exact this
theorem encBits_take (l : List UInt8) (k : Nat) (h : k < l.length) : encBits (l.take (k + 1)) = encBits (l.take k) ++ cw l[k] := by
  rw [List.take_succ_eq_append_getElem h, encBits_append]
  simp [encBits]

/-- How many bits lack, off the memory. -/
def rowFill (w : World) (g : Nat) : Nat := match w.cell? ⟨g, 1, none⟩ with | some (.int _ q) => fill q.toNat | _ => 0
theorem rowFill_of {w : World} {g n : Nat} (h : w.cell? ⟨g, 1, none⟩ = some (.int .i64 (n : Int))) : rowFill w g = fill n := by
  unfold rowFill
  rw [h]
  rfl

theorem encBits_cut (l : List UInt8) (k : Nat) : (encBits (l.take k)).length ≤ (encBits l).length := by
  have h : encBits l = encBits (l.take k) ++ encBits (l.drop k) := by rw [← encBits_append, List.take_append_drop]
  rw [h, List.length_append]
  omega
set_option maxRecDepth 100000 in
set_option maxHeartbeats 4000000 in
theorem encode_any (l : List UInt8) (hl : l.length ≤ 281474976710656) (hl9 : (encBits l).length ≤ 1400000000000000) (w : World) :
    Calls Try.prog 8 #[.string ⟨l.toArray⟩] w fun e w' => ∃ v, e = .returned v ∧ w'.ownsRow w.heap.size 5 1 v (enc l).length (bs (enc l)) ∧ Below w.heap.size w w' := by
  obtain ⟨c, W, hk, hcap, hr, hbW, hWs⟩ := conv_bytes (w.alloc (.cells #[.slice none 0 0, .int .i64 0] 61)) l
  have hb0 : Below w.heap.size w W := ((Below.refl _ _).alloc (Nat.le_refl _) _).trans (hbW.mono (by simp))
  have hblk0 : Blk W w.heap.size 61 #[.slice none 0 0, .int .i64 0] := (Blk.new w _ _).below hbW (by simp)
  simp only [World.size_alloc] at hr hWs hk
  have hR0 : IsRow W W.heap.size w.heap.size [] := ⟨_, hblk0, by rw [pack_nil]; exact World.ownsRow_nil _ _ _ _, Nat.le_refl _⟩
  have HB0 := Lib.hid hb0
  have hg : w.heap.size < W.heap.size := by omega
  have hg2 : w.heap.size + 1 < W.heap.size := by omega
  clear hbW hblk0 hb0 hWs
  go_enter Try.func8, Try.ntmps8
  go_wp2
  clear hk
  go_loopw [10] (fun i wr => ∃ k : Nat, k ≤ l.length ∧ i = .int .i64 k ∧ IsRow wr W.heap.size w.heap.size (encBits (l.take k)) ∧ BelowBut W.heap.size w.heap.size W wr) (fun i _ => l.length - (intOf i).toNat)
  case atStart => exact ⟨0, Nat.zero_le _, rfl, hR0, BelowBut.refl _ _ _⟩
  case round =>
    obtain ⟨k, hk, rfl, hRk, hbb⟩ := hrel
    clear hR0
    by_cases hlt : k < l.length
    · obtain ⟨b, off, hAd, hbB, hcl⟩ := reads_byte hr hlt
      injection hAd with hAd
      injection hAd with h1 h2 _
      subst h1 h2
      have hcl2 : wr.cell? ⟨w.heap.size + 1, k, none⟩ = some (.int .u8 (l[k].toNat : Int)) := by
        rw [hbb.cell (p := ⟨w.heap.size + 1, k, none⟩) hg2 (by show w.heap.size + 1 ≠ w.heap.size; omega)]
        rw [Nat.zero_add] at hcl
        exact hcl
      have HT := Lib.hid (encBits_take l k hlt)
      have hlen : (encBits (l.take k)).length ≤ 1500000000000000 := by
        have h1 := encBits_cut l k
        omega
      have hcw : cw l[k] = if 0 ≤ oidx l[k] then bitsOf 6 (oidx l[k]).toNat else bitsOf 9 (256 + l[k].toNat) := rfl
      have HCW := Lib.hid hcw
      have hyb : l[k].toNat < 256 := l[k].toNat_lt
      clear hcl hcw
      by_cases h0 : 0 ≤ oidx l[k]
      · obtain ⟨z, hz⟩ := Int.eq_ofNat_of_zero_le h0
        have hz31 := (oidx_bounds l[k]).2
        have hz32 : z < 512 := by omega
        have hcw2 := HCW.out
        rw [if_pos h0, hz, Int.toNat_natCast] at hcw2
        have HZ := Lib.hid hz
        have HC2 := Lib.hid hcw2
        clear HCW hcw2 h0 hz hz31
        go_wp2_with fail
        refine (idx_k l[k] z HZ.out wr).mono ?_
        rintro e w' ⟨rfl, rfl⟩
        go_wp2_with fail
        refine (put_any z 6 w.heap.size W.heap.size _ wr hz32 (by omega) hlen hg hRk).mono ?_
        rintro e w' ⟨rfl, hR', hb'⟩
        go_wp2_with fail
        go_roundw
        case rel => exact ⟨k + 1, by omega, by go_num, by rw [HT.out, HC2.out]; exact hR', hbb.trans hb'⟩
        case measure => simp [intOf]; omega
      · have hm1 : oidx l[k] = -1 := by have := (oidx_bounds l[k]).1; omega
        have hcw2 := HCW.out
        rw [if_neg h0] at hcw2
        have HZ := Lib.hid hm1
        have HC2 := Lib.hid hcw2
        have hor := i64_or_256 l[k].toNat hyb
        clear HCW hcw2 h0 hm1
        have hx9 : 256 + l[k].toNat < 512 := by omega
        go_wp2_with fail
        refine (idx_k l[k] (-1) HZ.out wr).mono ?_
        rintro e w' ⟨rfl, rfl⟩
        go_wp2_with fail
        refine (put_any (256 + l[k].toNat) 9 w.heap.size W.heap.size _ wr hx9 (by omega) hlen hg hRk).mono ?_
        rintro e w' ⟨rfl, hR', hb'⟩
        go_wp2_with fail
        go_roundw
        case rel => exact ⟨k + 1, by omega, by go_num, by rw [HT.out, HC2.out]; exact hR', hbb.trans hb'⟩
        case measure => simp [intOf]; omega
    · have hkl : k = l.length := by omega
      subst hkl
      rw [List.take_length] at hRk
      have hlen : (encBits l).length ≤ 1400000000000000 := hl9
      clear hlt hk hr
      go_wp2
      go_loopw [28] (fun _ w2 => ∃ j : Nat, j ≤ fill (encBits l).length ∧ IsRow w2 W.heap.size w.heap.size (encBits l ++ List.replicate j true) ∧ BelowBut W.heap.size w.heap.size W w2) (fun _ w2 => rowFill w2 w.heap.size)
      case atStart => exact ⟨0, Nat.zero_le _, by simpa using hRk, hbb⟩
      case round =>
        obtain ⟨j, hj, hRj, hbj⟩ := hrel
        clear hRk hbb
        have hRj2 := Lib.hid hRj
        obtain ⟨v, hb, hown, hBs⟩ := hRj
        have hN : (encBits l ++ List.replicate j true).length = (encBits l).length + j := by simp
        have hfl : fill (encBits l).length ≤ 7 := by unfold fill; omega
        have hc0 := hb.cell 0
        have hc1 := hb.cell 1
        simp only [List.getElem?_toArray, List.getElem?_cons_zero, List.getElem?_cons_succ] at hc0 hc1
        by_cases h8 : ((encBits l).length + j) % 8 = 0
        · have hjf : j = fill (encBits l).length := by unfold fill at *; omega
          have HE : Hid (enc l = pack (encBits l ++ List.replicate j true)) := by
            show _ = _
            rw [hjf]
            rfl
          rw [hN] at hc1
          have h8' : ((((encBits l).length : Int) + (j : Int)) % 8 == 0) = true := by simp; omega
          have HOW := Lib.hid hown
          clear hown hb h8 hjf hN hRj2
          go_wp2
          go_ret
          exact ⟨_, rfl, by rw [HE.out]; exact own_mono HOW.out (by omega), HB0.out.trans (hbj.below (by omega) (Nat.le_refl _))⟩
        · have hc1' := hc1
          rw [hN] at hc1
          have h8' : ((((encBits l).length : Int) + (j : Int)) % 8 == 0) = false := by simp; omega
          have hjlt : j + 1 ≤ fill (encBits l).length := by
            have : j ≠ fill (encBits l).length := by
              rintro rfl
              apply h8
              unfold fill
              omega
            omega
          have hF1 : rowFill wr w.heap.size = fill ((encBits l).length + j) := rowFill_of (by rw [hc1])
          have HF1 := Lib.hid hF1
          have HN := Lib.hid hN
          have hlen2 : (encBits l ++ List.replicate j true).length ≤ 1500000000000000 := by rw [hN]; omega
          clear hown hb hc1' hF1 hN hc0
          go_wp2_with fail
          refine (put_any 1 1 w.heap.size W.heap.size _ wr (by decide) (by decide) hlen2 hg hRj2.out).mono ?_
          rintro e w' ⟨rfl, hR', hb'⟩
          have e1 : encBits l ++ List.replicate j true ++ bitsOf 1 1 = encBits l ++ List.replicate (j + 1) true := by
            rw [List.append_assoc, show bitsOf 1 1 = [true] by decide, ← List.replicate_succ']
          rw [e1] at hR'
          clear e1
          go_wp2_with fail
          go_roundw
          case rel => exact ⟨j + 1, hjlt, hR', hbj.trans hb'⟩
          case measure =>
            obtain ⟨v', hb2, _⟩ := hR'
            have hc2 := hb2.cell 1
            simp only [List.getElem?_toArray, List.getElem?_cons_zero, List.getElem?_cons_succ] at hc2
            rw [HF1.out, rowFill_of hc2]
            simp only [List.length_append, List.length_replicate]
            unfold fill
            omega

set_option maxHeartbeats 1000000 in
theorem cbits_any (l : List UInt8) (hl : l.length ≤ 281474976710656) (w : World) :
    Calls Try.prog 10 #[.string ⟨l.toArray⟩] w fun e w' => e = .returned (.int .i64 ((encBits l).length : Nat)) ∧ Below w.heap.size w w' := by
  obtain ⟨c, W, hk, hcap, hr, hbW, hWs⟩ := conv_bytes w l
  go_enter Try.func10, Try.ntmps10
  go_wp2
  clear hk
  go_loop [3, 9] (fun x i => ∃ k : Nat, k ≤ l.length ∧ i = .int .i64 k ∧ x = .int .i64 ((encBits (l.take k)).length : Nat)) (fun _ i => l.length - (intOf i).toNat)
  case atStart => exact ⟨0, Nat.zero_le _, rfl, rfl⟩
  case round =>
    obtain ⟨k, hk, rfl, rfl⟩ := hrel
    by_cases hlt : k < l.length
    · obtain ⟨b, off, hAd, hbB, hcl⟩ := reads_byte hr hlt
      injection hAd with hAd
      injection hAd with h1 h2 _
      subst h1 h2
      rw [Nat.zero_add] at hcl
      have hT : (encBits (l.take (k + 1))).length = (encBits (l.take k)).length + (if 0 ≤ oidx l[k] then 6 else 9) := by
        rw [encBits_take l k hlt, List.length_append, cw_length]
      have HT := Lib.hid hT
      have hlen : (encBits (l.take k)).length ≤ 2533274790395904 := by
        have h1 := encBits_le (l.take k)
        have h2 : (l.take k).length ≤ l.length := List.length_take_le' ..
        omega
      clear hT hWs
      by_cases h0 : 0 ≤ oidx l[k]
      · have hT2 := HT.out
        rw [if_pos h0] at hT2
        have HT2 := Lib.hid hT2
        obtain ⟨z, hz⟩ := Int.eq_ofNat_of_zero_le h0
        have HZ := Lib.hid hz
        clear HT hT2 h0 hz
        go_wp2_with fail
        refine (idx_k l[k] z HZ.out _).mono ?_
        rintro e w' ⟨rfl, rfl⟩
        go_wp2_with fail
        go_round
        case rel => exact ⟨k + 1, by omega, by go_num, by rw [HT2.out]; go_num⟩
        case measure => simp [intOf]; omega
      · have hT2 := HT.out
        rw [if_neg h0] at hT2
        have HT2 := Lib.hid hT2
        have hm1 : oidx l[k] = -1 := by have := (oidx_bounds l[k]).1; omega
        have HZ := Lib.hid hm1
        clear HT hT2 h0 hm1
        go_wp2_with fail
        refine (idx_k l[k] (-1) HZ.out _).mono ?_
        rintro e w' ⟨rfl, rfl⟩
        go_wp2_with fail
        go_round
        case rel => exact ⟨k + 1, by omega, by go_num, by rw [HT2.out]; go_num⟩
        case measure => simp [intOf]; omega
    · have hkl : k = l.length := by omega
      subst hkl
      have HBW := Lib.hid hbW
      clear hbW
      go_wp2
      go_ret
      exact ⟨by simp, HBW.out⟩
end Go.Proofs.Ytkbbkamnmdeagaa
