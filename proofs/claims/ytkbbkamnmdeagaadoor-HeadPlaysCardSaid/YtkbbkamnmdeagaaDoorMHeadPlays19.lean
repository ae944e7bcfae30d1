/-
  The text that bytes begin with: the contract of the reference's ReadText. Condition: the bound on the row's length.
  The weights of fields, the program's and the reference's, with no bound on the sum: what 64 bits hold. Condition: the texts' lengths, how many fields there are.
-/
import Derived.Test.YtkbbkamnmdeagaaDoorMHeadPlays07
import Derived.Test.YtkbbkamnmdeagaaDoorMHeadPlays18
import Derived.Test.YtkbbkamnmdeagaaDoorMHeadPlays13
import Derived.Test.YtkbbkamnmdeagaaDoorMHeadPlays09
namespace Go.Proofs.YtkbbkamnmdeagaaDoor
open Go.RowKit

theorem rtext_gave (l : List UInt8) (w : World) (hlm : l.length ≤ 140737488355328) :
    Calls Tryd.prog 33 #[.string ⟨l.toArray⟩] w fun e w' => ∃ A c, e = .returned (.tuple #[.slice A (txtL l).length c, .int .i64 (txtE l : Nat)]) ∧ Gave w w' (txtL l) A c := by
  refine (rtext_any l w hlm).mono ?_
  rintro e w' ⟨v, he, hown, hb⟩
  obtain ⟨A, c, rfl, hg⟩ := gave_of_own hown hb
  exact ⟨A, c, he, hg⟩
theorem rdecode_is (l s : List UInt8) (h : decode l = some s) (hl : l.length ≤ 68719476736) (A : Option Addr) (n c : Nat) (hn : n = l.length) (w : World) (hr : Reads w w.heap.size 1 A l.length (bs l)) :
    Calls Tryd.prog 25 #[.slice A n c] w fun e w' => e = .returned (.tuple #[.string ⟨s.toArray⟩, .bool true]) ∧ Below w.heap.size w w' := by
  refine (rdecode_any l hl A n c hn w hr).mono ?_
  rintro e w' ⟨he, hb⟩
  have h' := h
  unfold decode at h'
  rw [h'] at he
  exact ⟨he, hb⟩
theorem rdecode_not (l : List UInt8) (h : decode l = none) (hl : l.length ≤ 68719476736) (A : Option Addr) (n c : Nat) (hn : n = l.length) (w : World) (hr : Reads w w.heap.size 1 A l.length (bs l)) :
    Calls Tryd.prog 25 #[.slice A n c] w fun e w' => e = .returned (.tuple #[.string ⟨#[]⟩, .bool false]) ∧ Below w.heap.size w w' := by
  refine (rdecode_any l hl A n c hn w hr).mono ?_
  rintro e w' ⟨he, hb⟩
  have h' := h
  unfold decode at h'
  rw [h'] at he
  exact ⟨he, hb⟩

set_option maxRecDepth 100000 in
set_option maxHeartbeats 4000000 in
theorem rreadT_any (l : List UInt8) (A : Option Addr) (n c : Nat) (hn : n = l.length) (hcap : l.length ≤ c) (hm : l.length ≤ 140737488355328) (w : World) (hr : Reads w w.heap.size 1 A l.length (bs l)) :
    Calls Tryd.prog 35 #[.slice A n c] w fun e w' => e = .returned (.tuple #[.string ⟨(readT l).1.toArray⟩, .int .i64 ((readT l).2.1 : Nat), (.int .i64 ((readT l).2.2 : Nat))]) ∧ Below w.heap.size w w' := by
  subst hn
  obtain ⟨N, U, E, hV⟩ : ∃ N U E, getV l 7 = (N, U, E) := ⟨_, _, _, rfl⟩
  by_cases hE : E ≠ 0
  · rw [readT_err hV hE]
    have HV := Lib.hid hV
    have hE' : ¬ ((E : Int) = 0) := by omega
    have hE2 : ((E : Int) != 0) = true := by simp; omega
    clear hV
    go_enter Tryd.func35, Tryd.ntmps35
    go_wp2_with fail
    refine (rget_any l 7 A _ c rfl hm _ w hr).mono ?_
    rintro e w' ⟨rfl, rfl⟩
    rw [HV.out]
    go_wp2
    go_ret3
    exact ⟨rfl, Below.refl _ _⟩
  have hE0 : E = 0 := Decidable.not_not.1 hE
  subst hE0
  clear hE
  have hu := getV_used (l := l) (t := 7) (by rw [hV])
  rw [hV] at hu
  simp only at hu
  obtain ⟨hu1, hu2, hu3⟩ := hu
  by_cases h4 : 400 < N
  · rw [readT_full hV h4]
    have HV := Lib.hid hV
    clear hV
    go_enter Tryd.func35, Tryd.ntmps35
    go_wp2_with fail
    refine (rget_any l 7 A _ c rfl hm _ w hr).mono ?_
    rintro e w' ⟨rfl, rfl⟩
    rw [HV.out]
    go_wp2
    go_ret3
    exact ⟨rfl, Below.refl _ _⟩
  by_cases h5 : l.length < U + N
  · rw [readT_short hV h4 h5]
    have HV := Lib.hid hV
    clear hV
    go_enter Tryd.func35, Tryd.ntmps35
    go_wp2_with fail
    refine (rget_any l 7 A _ c rfl hm _ w hr).mono ?_
    rintro e w' ⟨rfl, rfl⟩
    rw [HV.out]
    go_wp2
    go_ret3
    exact ⟨rfl, Below.refl _ _⟩
  obtain ⟨b, off, y0, rfl, hbB, hcell, hhd, hy0⟩ := reads_head hr (by omega)
  have hmid := reads_mid (c := c) hr (at_ := U) (n := N) (by omega) hcap
  have hlen : ((l.drop U).take N).length = N := by simp; omega
  have htake := hr.take (k := U + N) (by omega)
  rw [bs_take] at htake
  have hlt : (l.take (U + N)).length = U + N := by simp; omega
  obtain ⟨mid, hmidL⟩ : ∃ mid, (l.drop U).take N = mid := ⟨_, rfl⟩
  obtain ⟨all, hallL⟩ : ∃ all, l.take (U + N) = all := ⟨_, rfl⟩
  obtain ⟨A1, hA1⟩ : ∃ A1, (if c = U then some (⟨b, off, none⟩ : Addr) else some ⟨b, off + U, none⟩) = A1 := ⟨_, rfl⟩
  rw [hmidL] at hmid hlen
  rw [hallL] at htake hlt
  rw [hA1] at hmid
  have hk := fun (W : World) (hW : Below w.heap.size w W) => run_str (w := W) (A := A1) (l := mid) (by rw [hlen]; exact hmid.below hW)
  rw [hlen] at hk
  have HHmid := Lib.hid hmidL
  have HHall := Lib.hid hallL
  have HA := Lib.hid hA1
  have hhi : U + N ≤ l.length := by omega
  by_cases h128 : 128 ≤ y0
  · cases hD : decode mid with
    | none =>
      rw [readT_none hV h4 h5 (by rw [hhd]; exact h128) (by rw [hmidL]; exact hD)]
      have HV := Lib.hid hV
      have hk0 := hk w (Below.refl _ _) (c - U)
      have HD := Lib.hid hD
      have hml := Nat.le_of_eq hlen
      have HL := Lib.hid hlen
      clear hV hD hmidL hallL hk hhd hlen hlt htake
      go_enter Tryd.func35, Tryd.ntmps35
      go_wp2_with fail
      refine (rget_any l 7 _ _ c rfl hm _ w hr).mono ?_
      rintro e w' ⟨rfl, rfl⟩
      rw [HV.out]
      go_wp2_with fail
      refine (rdecode_not mid HD.out (by omega) A1 _ _ (by rw [HL.out]) w (by rw [HL.out]; exact hmid)).mono ?_
      rintro e w' ⟨rfl, hb1⟩
      go_wp2
      go_ret3
      exact ⟨rfl, hb1⟩
    | some s =>
      have hT := readT_some (s := s) hV h4 h5 (by rw [hhd, if_pos h128, hmidL]; exact hD)
      rw [hallL] at hT
      rw [hT]
      have HV := Lib.hid hV
      have hk0 := hk w (Below.refl _ _) (c - U)
      have HD := Lib.hid hD
      have HM := Lib.hid hlen
      have hml := Nat.le_of_eq hlen
      have HL := Lib.hid hlt
      by_cases hs4 : 400 < s.length
      · rw [if_pos hs4]
        have hsl := decode_len HD.out
        clear hV hmidL hallL hk hhd hlt hT hlen hD
        go_enter Tryd.func35, Tryd.ntmps35
        go_wp2_with fail
        refine (rget_any l 7 _ _ c rfl hm _ w hr).mono ?_
        rintro e w' ⟨rfl, rfl⟩
        rw [HV.out]
        go_wp2_with fail
        refine (rdecode_is mid s HD.out (by omega) A1 _ _ (by rw [HM.out]) w (by rw [HM.out]; exact hmid)).mono ?_
        rintro e w1 ⟨rfl, hb1⟩
        go_wp2
        go_ret3
        exact ⟨rfl, hb1⟩
      rw [if_neg hs4]
      have hT0 : txtE s = 0 := by rw [txtE, if_neg hs4]
      have HT0 := Lib.hid hT0
      by_cases hx : txtL s = all
      · rw [if_pos hx]
        subst hx
        clear hV hmidL hallL hk hhd hlt hT hT0 hlen hD
        go_enter Tryd.func35, Tryd.ntmps35
        go_wp2_with fail
        refine (rget_any l 7 _ _ c rfl hm _ w hr).mono ?_
        rintro e w' ⟨rfl, rfl⟩
        rw [HV.out]
        go_wp2_with fail
        refine (rdecode_is mid s HD.out (by omega) A1 _ _ (by rw [HM.out]) w (by rw [HM.out]; exact hmid)).mono ?_
        rintro e w1 ⟨rfl, hb1⟩
        go_wp2_with fail
        refine (rtext_gave s w1 (by omega)).mono ?_
        rintro e w' ⟨A2, c2, rfl, hc2, hr2, hb2⟩
        rw [HT0.out]
        have k2 := fun m => run_str (w := w'.drewN m) (hr2.drewN m) c2
        have k3 := fun m => run_str (w := w'.drewN m) (A := some ⟨b, off, none⟩) (l := txtL s) (by rw [HL.out]; exact ((htake.below hb1).below (hb2.mono hb1.size)).drewN m) c
        rw [HL.out] at k2 k3 ⊢
        go_wp2_with fail
        go_quiet (fail)
        go_wp2
        go_ret3
        exact ⟨rfl, below_dN (hb1.trans (hb2.mono hb1.size)) _⟩
      · rw [if_neg hx]
        have hx2 : (txtL s == all) = false := by simpa using hx
        clear hV hmidL hallL hk hhd hlt hT hT0 hlen hD
        go_enter Tryd.func35, Tryd.ntmps35
        go_wp2_with fail
        refine (rget_any l 7 _ _ c rfl hm _ w hr).mono ?_
        rintro e w' ⟨rfl, rfl⟩
        rw [HV.out]
        go_wp2_with fail
        refine (rdecode_is mid s HD.out (by omega) A1 _ _ (by rw [HM.out]) w (by rw [HM.out]; exact hmid)).mono ?_
        rintro e w1 ⟨rfl, hb1⟩
        go_wp2_with fail
        refine (rtext_gave s w1 (by omega)).mono ?_
        rintro e w' ⟨A2, c2, rfl, hc2, hr2, hb2⟩
        rw [HT0.out]
        have k2 := fun m => run_str (w := w'.drewN m) (hr2.drewN m) c2
        have k3 := fun m => run_str (w := w'.drewN m) (A := some ⟨b, off, none⟩) (l := all) (by rw [HL.out]; exact ((htake.below hb1).below (hb2.mono hb1.size)).drewN m) c
        rw [HL.out] at k3
        go_wp2_with fail
        go_quiet (fail)
        go_wp2
        go_ret3
        exact ⟨rfl, below_dN (hb1.trans (hb2.mono hb1.size)) _⟩
  · have hT := readT_some (s := mid) hV h4 h5 (by rw [hhd, if_neg h128, hmidL])
    rw [hallL] at hT
    rw [hT, if_neg (by omega)]
    have HV := Lib.hid hV
    have hk0 := hk w (Below.refl _ _) (c - U)
    have hT0 : txtE mid = 0 := by rw [txtE, if_neg (by omega)]
    have HT0 := Lib.hid hT0
    have hml : mid.length ≤ 400 := by omega
    have HL := Lib.hid hlt
    by_cases hx : txtL mid = all
    · rw [if_pos hx]
      subst hx
      clear hV hmidL hallL hk hhd hlen hlt hT hT0
      go_enter Tryd.func35, Tryd.ntmps35
      go_wp2_with fail
      refine (rget_any l 7 _ _ c rfl hm _ w hr).mono ?_
      rintro e w' ⟨rfl, rfl⟩
      rw [HV.out]
      go_wp2_with fail
      refine (rtext_gave mid w (by omega)).mono ?_
      rintro e w' ⟨A2, c2, rfl, hc2, hr2, hb2⟩
      rw [HT0.out]
      have k2 := fun m => run_str (w := w'.drewN m) (hr2.drewN m) c2
      have k3 := fun m => run_str (w := w'.drewN m) (A := some ⟨b, off, none⟩) (l := txtL mid) (by rw [HL.out]; exact (htake.below hb2).drewN m) c
      rw [HL.out] at k2 k3 ⊢
      go_wp2_with fail
      go_quiet (fail)
      go_wp2
      go_ret3
      exact ⟨rfl, below_dN hb2 _⟩
    · rw [if_neg hx]
      have hx2 : (txtL mid == all) = false := by simpa using hx
      clear hV hmidL hallL hk hhd hlt hT hT0 hlen
      go_enter Tryd.func35, Tryd.ntmps35
      go_wp2_with fail
      refine (rget_any l 7 _ _ c rfl hm _ w hr).mono ?_
      rintro e w' ⟨rfl, rfl⟩
      rw [HV.out]
      go_wp2_with fail
      refine (rtext_gave mid w (by omega)).mono ?_
      rintro e w' ⟨A2, c2, rfl, hc2, hr2, hb2⟩
      rw [HT0.out]
      have k2 := fun m => run_str (w := w'.drewN m) (hr2.drewN m) c2
      have k3 := fun m => run_str (w := w'.drewN m) (A := some ⟨b, off, none⟩) (l := all) (by rw [HL.out]; exact (htake.below hb2).drewN m) c
      rw [HL.out] at k3
      go_wp2_with fail
      go_quiet (fail)
      go_wp2
      go_ret3
      exact ⟨rfl, below_dN hb2 _⟩
end Go.Proofs.YtkbbkamnmdeagaaDoor
namespace Go.Proofs.YtkbbkamnmdeagaaDoor
open Go.RowKit

theorem wrap_add (a b : Int) : wrap64 (wrap64 a + b) = wrap64 (a + b) := by
  unfold wrap64
  omega
theorem wrap_smallN {n : Nat} (h : n ≤ 9000000000000000000) : wrap64 ((n : Nat) : Int) = ((n : Nat) : Int) := by
  unfold wrap64
  omega
theorem wt_small {l : List Fld} (hf : ∀ f ∈ l, fOk f) (h : l.length ≤ 1000) : wt l ≤ 9000000000000000000 := by
  have := wt_bound l hf
  omega
set_option maxRecDepth 100000 in
set_option maxHeartbeats 4000000 in
theorem rweightW_any (l : List Fld) (hf : ∀ f ∈ l, fOk f) (hm : l.length ≤ 140737488355328) (A : Option Addr) (n c : Nat) (hn : n = l.length) (w : World) (hr : Reads w w.heap.size 2 A l.length (fvs l)) :
    Calls Tryd.prog 54 #[.slice A n c] w fun e w' => e = .returned (.int .i64 (wrap64 ((wt l : Nat) : Int))) ∧ Below w.heap.size w w' := by
  subst hn
  have HR := Lib.hid hr
  have HF := Lib.hid hf
  clear hr hf
  go_enter Tryd.func54, Tryd.ntmps54
  go_wp2
  obtain ⟨wo, hwo⟩ : ∃ wo : World, w = wo := ⟨_, rfl⟩
  go_loopw [3, 4] (fun x i wr => ∃ (k : Nat) (z : Int), k ≤ l.length ∧ i = .int .i64 (k : Int) ∧ x = .int .i64 z ∧ Hid (z = wrap64 ((wt (l.take k) : Nat) : Int)) ∧ Hid (Below w.heap.size w wr)) (fun _ i _ => l.length - (intOf i).toNat)
  case atStart => exact ⟨0, 0, Nat.zero_le _, rfl, rfl, by simp [wt, wrap64, Hid], Below.refl _ _⟩
  case round =>
    obtain ⟨k, z, hk, rfl, rfl, HZ, HB⟩ := hrel
    by_cases hlt : k < l.length
    · have hs := wt_take_succ l k hlt
      obtain ⟨b, off, rfl, hbB, hcl⟩ := reads_fld (HR.out.below HB.out) (by omega)
      obtain ⟨e0, e1⟩ := hcl k hlt
      have hfk := Lib.hid (HF.out l[k] (List.getElem_mem hlt))
      have HS := Lib.hid hs
      clear hcl hs
      generalize l[k] = f at *
      have HZZ := Lib.hid (show wrap64 (z + ((fsz f : Nat) : Int)) = wrap64 ((wt (l.take (k + 1)) : Nat) : Int) by
        rw [HZ.out, wrap_add, HS.out, Int.natCast_add])
      go_wp2_with (go_at_call 86; refine (rsize_any f hfk.out _).mono ?_; rintro e w1 ⟨rfl, hb1⟩)
      go_roundw
      case rel => exact ⟨k + 1, _, by omega, by go_num, rfl, HZZ, HB.out.trans (hb1.mono HB.out.size)⟩
      case measure => simp [intOf]; omega
    · have hke : l.take k = l := List.take_of_length_le (by omega)
      rw [hke] at HZ
      go_wp2
      go_ret
      exact ⟨congrArg (fun z => Ending.returned (Value.int .i64 z)) HZ.out, HB.out⟩
set_option maxRecDepth 100000 in
set_option maxHeartbeats 4000000 in
theorem weightW_any (l : List Fld) (hf : ∀ f ∈ l, fOk f) (hm : l.length ≤ 140737488355328) (A : Option Addr) (n c : Nat) (hn : n = l.length) (w : World) (hr : Reads w w.heap.size 2 A l.length (fvs l)) :
    Calls Tryd.prog 63 #[.slice A n c] w fun e w' => e = .returned (.int .i64 (wrap64 ((wt l : Nat) : Int))) ∧ Below w.heap.size w w' := by
  subst hn
  have HR := Lib.hid hr
  have HF := Lib.hid hf
  clear hr hf
  go_enter Tryd.func63, Tryd.ntmps63
  go_wp2
  go_loopw [3, 8] (fun x i wr => ∃ (k : Nat) (z : Int), k ≤ l.length ∧ i = .int .i64 (k : Int) ∧ x = .int .i64 z ∧ Hid (z = wrap64 ((wt (l.take k) : Nat) : Int)) ∧ Hid (Below w.heap.size w wr)) (fun _ i _ => l.length - (intOf i).toNat)
  case atStart => exact ⟨0, 0, Nat.zero_le _, rfl, rfl, by simp [wt, wrap64, Hid], Below.refl _ _⟩
  case round =>
    obtain ⟨k, z, hk, rfl, rfl, HZ, HB⟩ := hrel
    by_cases hlt : k < l.length
    · have hs := wt_take_succ l k hlt
      obtain ⟨b, off, rfl, hbB, hcl⟩ := reads_fld (HR.out.below HB.out) (by omega)
      obtain ⟨e0, e1⟩ := hcl k hlt
      have hbr := Nat.lt_of_lt_of_le hbB HB.out.size
      have hfk := Lib.hid (HF.out l[k] (List.getElem_mem hlt))
      have HS := Lib.hid hs
      clear hcl hs
      generalize l[k] = f at *
      have HB2 := Lib.hid (HB.out.alloc HB.out.size (.cells #[.string ⟨f.1.toArray⟩, .string ⟨f.2.toArray⟩] 86))
      have HB2s := HB2.out.size
      have HZZ := Lib.hid (show wrap64 (z + ((fsz f : Nat) : Int)) = wrap64 ((wt (l.take (k + 1)) : Nat) : Int) by
        rw [HZ.out, wrap_add, HS.out, Int.natCast_add])
      go_wp2_with (go_at_call 83; refine (size_any f hfk.out _).mono ?_; rintro e w1 ⟨rfl, hb1⟩)
      go_roundw
      case rel => exact ⟨k + 1, _, by omega, by go_num, rfl, HZZ, HB2.out.trans (hb1.mono HB2s)⟩
      case measure => simp [intOf]; omega
    · have hke : l.take k = l := List.take_of_length_le (by omega)
      rw [hke] at HZ
      go_wp2
      go_ret
      exact ⟨congrArg (fun z => Ending.returned (Value.int .i64 z)) HZ.out, HB.out⟩
end Go.Proofs.YtkbbkamnmdeagaaDoor
