/-
  The walk of the law WireBack: it returns true, and nothing that was in memory turns. Condition: errors.errorType holds the handle of the type 'error'.
-/
import Derived.Test.YtkbbkamnmdeagaaDoorWirePutsWalk
import Derived.Test.YtkbbkamnmdeagaaDoorVarLaw
import Derived.Deep.QuietTactic
import Derived.BigQuiet
namespace Go.Proofs.YtkbbkamnmdeagaaDoor
open Go.RowKit

theorem own_below {w w' : World} {base : Nat} {e : TypeId} {size n : Nat} {v : Value} {xs : List Value} (h : w.ownsRow base e size v n xs) (hb : Below w.heap.size w w') : w'.ownsRow base e size v n xs := by
  obtain ⟨h1, h2⟩ := h
  refine ⟨h1, ?_⟩
  rcases h2 with h2 | ⟨g, cap, cur, hv, hg, hh, r⟩
  · exact .inl h2
  · refine .inr ⟨g, cap, cur, hv, hg, ?_, r⟩
    rw [hb.block g (Blk.lt (t := e) (cs := cur) hh)]
    exact hh
theorem wput_okL (n bits first : Int) (L : List UInt8) (h : putOk n bits first) (hL : putL n bits first = L) (w : World) :
    Calls Tryd.prog 19 #[.int .i64 n, .int .i64 bits, .int .i64 first] w fun e w' => ∃ A c, e = .returned (.tuple #[.slice A L.length c, .nilIface]) ∧ w'.ownsRow w.heap.size 5 1 (.slice A L.length c) L.length (bs L) ∧ Gave w w' L A c := by
  have e1 : putE n bits first = 0 := by simp [putE, h]
  refine (wput_any n bits first w).mono ?_
  rintro e w' ⟨v, he, hown, hb⟩
  rw [e1] at he
  rw [hL] at hown
  obtain ⟨A, c, rfl, hg⟩ := gave_of_own hown hb
  exact ⟨A, c, he, hown, hg⟩
theorem wput_err (n bits first : Int) (h : ¬ putOk n bits first) (w : World) :
    Calls Tryd.prog 19 #[.int .i64 n, .int .i64 bits, .int .i64 first] w fun e w' => e = .returned (.tuple #[.slice none 0 0, .iface 113 (.int .i64 1)]) ∧ w = w' :=
  wput_bad n bits first h w
theorem wget_okL (l : List UInt8) (s : Int) (N U : Nat) (h : getV l s = (N, U, 0)) (A : Option Addr) (n c : Nat) (hn : n = l.length) (hcap : l.length ≤ c) (hm : l.length ≤ 140737488355328) (B : Nat) (w : World) (hr : Reads w B 1 A l.length (bs l)) :
    Calls Tryd.prog 21 #[.slice A n c, .int .i64 s] w fun e w' => e = .returned (.tuple #[.int .i64 (N : Int), .int .i64 (U : Int), .nilIface]) ∧ w = w' := by
  refine (wget_any l s A n c hn hcap hm B w hr).mono ?_
  rintro e w' ⟨he, hw⟩
  rw [h] at he
  exact ⟨he, hw⟩
theorem wget_err (l : List UInt8) (s : Int) (k : Nat) (h : (getV l s).2.2 = k + 1) (A : Option Addr) (n c : Nat) (hn : n = l.length) (hcap : l.length ≤ c) (hm : l.length ≤ 140737488355328) (B : Nat) (w : World) (hr : Reads w B 1 A l.length (bs l)) :
    Calls Tryd.prog 21 #[.slice A n c, .int .i64 s] w fun e w' => ∃ N U : Nat, e = .returned (.tuple #[.int .i64 (N : Int), .int .i64 (U : Int), .iface 113 (.int .i64 ((k + 1 : Nat) : Int))]) ∧ w = w' := by
  refine (wget_any l s A n c hn hcap hm B w hr).mono ?_
  rintro e w' ⟨he, hw⟩
  rw [h, errV_pos (by omega)] at he
  exact ⟨_, _, he, hw⟩
theorem wbig4 (N : Nat) (h : N ≤ 2147483647) (w : World) :
    Calls Tryd.prog 14 #[.int .i64 (N : Int), .int .i64 4] w fun e w' => ∃ A c, e = .returned (.tuple #[.slice A (beBytes 4 N).length c, .nilIface]) ∧ Gave w w' (beBytes 4 N) A c := by
  have hk : bigOk (N : Int) 4 := ⟨by omega, by omega, by omega, by simp [most]; omega⟩
  have e1 : bigE (N : Int) 4 = 0 := by simp [bigE, hk]
  have e2 : bigL (N : Int) 4 = beBytes 4 N := by simp [bigL, hk]
  refine (wbig_any (N : Int) 4 w).mono ?_
  rintro e w' ⟨A, c, he, hg⟩
  rw [e1, e2] at he
  rw [e2] at hg
  exact ⟨A, c, he, hg⟩
theorem read4 (N : Nat) (h : N ≤ 2147483647) : readE (beBytes 4 N) 4 = 0 ∧ readN (beBytes 4 N) 4 = N := by
  have h1 : beNat (beBytes 4 N) = N := beNat_bytes 4 N (by omega)
  have h2 : (beBytes 4 N).take (4 : Int).toNat = beBytes 4 N := List.take_of_length_le (by rw [beBytes_length]; decide)
  have e : readE (beBytes 4 N) 4 = 0 := by
    unfold readE
    rw [h2, h1, beBytes_length, if_neg (by omega), if_neg (by omega), if_neg (by omega)]
  exact ⟨e, by rw [readN, if_pos e, h2, h1]⟩
theorem fact_put : putOk 1337 5 0 ∧ putL 1337 5 0 = [31, 154, 10] := by
  have h : putOk 1337 5 0 := by unfold putOk; decide
  refine ⟨h, ?_⟩
  have e : (UInt8.ofNat (0 + (2 ^ 5 - 1))) = 31 := by decide
  rw [putL, if_pos h]
  show putN 1337 5 0 = _
  rw [putN, if_neg (by decide), show (1337 - (2 ^ 5 - 1)) = 1306 by decide, cont_more (by decide), cont_last (by decide)]
  decide

/-- What the last part of the law leans on, where the bytes are a number. -/
structure Back (l : List UInt8) (s : Int) (N U c0 P : Nat) : Prop where
  s1 : 1 ≤ s
  s8 : s ≤ 8
  hP : (2 : Int) ^ s.toNat = P
  P2 : 2 ≤ P
  P256 : P ≤ 256
  N31 : N ≤ 2147483647
  U1 : 1 ≤ U
  Ul : U ≤ l.length
  c255 : c0 ≤ 255
  at0 : (bs l)[0]? = some (.int .u8 (c0 : Int))
  ok : putOk N s ((c0 / P * P : Nat) : Int)
  L : putL N s ((c0 / P * P : Nat) : Int) = l.take U
  high : c0 / P * P ≤ 255
theorem back_of (l : List UInt8) (s : Int) (N U : Nat) (h : getV l s = (N, U, 0)) : ∃ c0 P, Back l s N U c0 P := by
  match l, h with
  | [], h =>
    simp only [getV] at h
    split at h <;> simp at h
  | c :: r, h =>
    obtain ⟨h1, h8, hN, hU, hU2, hput⟩ := put_getV c r s N U h
    have hp := pow2_bounds (t := s.toNat) (by omega) (by omega)
    have hh := put_high c s.toNat
    have hk : putOk N s ((c.toNat / 2 ^ s.toNat * 2 ^ s.toNat : Nat) : Int) := by
      refine ⟨h1, h8, by omega, by omega, by omega, by omega, ?_⟩
      have e : ((2 : Int) ^ s.toNat) = ((2 ^ s.toNat : Nat) : Int) := by simp
      rw [e]
      have := hh.1
      omega
    refine ⟨c.toNat, 2 ^ s.toNat, h1, h8, by simp, hp.1, hp.2, hN, hU, by simpa using hU2, by have := c.toNat_lt; omega, rfl, hk, ?_, hh.2⟩
    rw [putL, if_pos hk, Int.toNat_natCast, Int.toNat_natCast]
    exact hput

theorem below_drewN {B : Nat} {a w : World} (h : Below B a w) (n : Nat) : Below B a (w.drewN n) := ⟨h.os, h.tape, h.output, h.size, h.block⟩

set_option maxRecDepth 100000 in
set_option maxHeartbeats 4000000 in
theorem wireBack_bad (n s : Int) (hbad : ¬ putOk n s 0) (l : List UInt8) (A : Option Addr) (c : Nat) (w : World) (hcap : l.length ≤ c) (hm : l.length ≤ 140737488351232) (hr : Reads w w.heap.size 1 A l.length (bs l)) :
    Calls Tryd.prog 5 #[.int .i64 n, .int .i64 s, .slice A l.length c] w fun e w' => e = .returned (.bool true) ∧ Below w.heap.size w w' := by
  replace hm : l.length ≤ 140737488355328 := by omega
  go_enter Tryd.func5, Tryd.ntmps5
  go_wp2_with fail
  refine (wput_okL 1337 5 0 _ fact_put.1 fact_put.2 w).mono ?_
  rintro e w1 ⟨A1, c1, rfl, _, hc1, hg1, hb1⟩
  obtain ⟨b1, o1, rfl, hB1, hcl1⟩ := hg1.form (by decide)
  have f0 : w1.cell? ⟨b1, o1, none⟩ = some (.int .u8 31) := hcl1 0 _ rfl
  have f1 : w1.cell? ⟨b1, o1 + 1, none⟩ = some (.int .u8 154) := hcl1 1 _ rfl
  have f2 : w1.cell? ⟨b1, o1 + 2, none⟩ = some (.int .u8 10) := hcl1 2 _ rfl
  have hr1 : Reads w1 w1.heap.size 1 A l.length (bs l) := (hr.below hb1).more hb1.size
  clear hg1 hcl1 hr
  simp only [List.length_cons, List.length_nil] at *
  go_wp2_with fail
  refine (wput_err n s 0 hbad w1).mono ?_
  rintro e w' ⟨rfl, rfl⟩
  clear f0 f1 f2
  go_wp2_with fail

  -- the bytes as they came
  cases hE2 : (getV l s).2.2 with
  | succ k =>
    refine (wget_err l s k hE2 A _ c rfl hcap hm _ _ hr1).mono ?_
    rintro e w' ⟨N, U, rfl, rfl⟩
    go_wp2
    go_ret
    exact ⟨rfl, hb1⟩
  | zero =>
    obtain ⟨N, U, hV⟩ : ∃ N U, getV l s = (N, U, 0) := ⟨_, _, by rw [← hE2]⟩
    obtain ⟨c0, P, hB⟩ := back_of l s N U hV
    have HV := Lib.hid hV
    have HB := Lib.hid hB
    have hU1 := hB.U1
    have hUl := hB.Ul
    have hN31 := hB.N31
    have hs1 := hB.s1
    have hs8 := hB.s8
    have hP2 := hB.P2
    have hP256 := hB.P256
    have hc0 := hB.c255
    have hUc : U ≤ c := by omega
    clear hE2 hV hB
    refine (wget_okL l s N U HV.out A _ c rfl hcap hm _ _ hr1).mono ?_
    rintro e w' ⟨rfl, rfl⟩
    go_wp2_with fail
    go_loop [22, 23] (fun x i => ∃ k : Nat, (k : Int) ≤ s ∧ i = .int .i64 k ∧ x = .int .i64 ((2 : Int) ^ k)) (fun _ i => s.toNat - (intOf i).toNat)
    case atStart => exact ⟨0, by omega, rfl, rfl⟩
    case round =>
      obtain ⟨k, hk, rfl, rfl⟩ := hrel
      by_cases hlt : (k : Int) < s
      · have hb3 : (2 : Int) ^ k * 2 ≤ 512 := by
          have h1 : (2 : Int) ^ k ≤ 2 ^ 8 := ipow_le (by omega)
          omega
        have hb2 := ipow_pos k
        go_wp2_with fail
        go_round
        case rel => exact ⟨k + 1, by omega, by go_num, by rw [Int.pow_succ]⟩
        case measure => simp [intOf]; omega
      · have hks : k = s.toNat := by omega
        subst hks
        rw [HB.out.hP]
        have hat := HB.out.at0
        obtain ⟨b, off, rfl, hbB, hcell⟩ := (hr1).form (by omega)
        have h0 := hcell 0 _ hat
        rw [Nat.add_zero] at h0
        have hq0 : 0 ≤ (c0 : Int) / (P : Int) := Int.ediv_nonneg (by omega) (by omega)
        have hq1 : (c0 : Int) / (P : Int) ≤ 255 := Int.le_trans (Int.ediv_le_self _ (by omega)) (by omega)
        have hq2 : 0 ≤ (c0 : Int) / (P : Int) * (P : Int) := Int.mul_nonneg hq0 (by omega)
        have hq3 : (c0 : Int) / (P : Int) * (P : Int) ≤ 255 := by
          have h9 := HB.out.high
          have e9 : ((c0 / P * P : Nat) : Int) = (c0 : Int) / (P : Int) * (P : Int) := by simp
          omega
        have HK : Hid (putOk N s ((c0 : Int) / (P : Int) * (P : Int)) ∧ putL N s ((c0 : Int) / (P : Int) * (P : Int)) = l.take U) := by
          have e9 : ((c0 / P * P : Nat) : Int) = (c0 : Int) / (P : Int) * (P : Int) := by simp
          rw [← e9]
          exact ⟨HB.out.ok, HB.out.L⟩
        clear hat hk hlt
        have HR := Lib.hid hr1
        have HBB := Lib.hid hb1
        go_wp2_with fail
        refine (wput_okL _ _ _ _ HK.out.1 HK.out.2 _).mono ?_
        rintro e w5 ⟨A5, c5, rfl, _, hc5, hr5, hb5⟩
        go_wp2_with fail
        refine (wbig4 N hN31 w5).mono ?_
        rintro e w6 ⟨A6, c6, rfl, hc6, hr6, hb6⟩
        go_wp2_with fail
        refine (wread_any (beBytes 4 N) 4 A6 _ c6 rfl hc6 (by rw [beBytes_length]; decide) _ w6 hr6).mono ?_
        rintro e w' ⟨rfl, rfl⟩
        have e40 := (read4 N hN31).1
        have e4N := (read4 N hN31).2
        rw [e40, e4N, errV_zero]
        clear e40 e4N
        have hb56 := hb5.trans (hb6.mono hb5.size)
        have hrb := (HR.out.take hUl).below (hb56.mono (Nat.le_refl _))
        have hlu : (l.take U).length = U := by rw [List.length_take]; omega
        have k1 : ∀ m, (convert 22 9 (.slice A5 U c5)).run Tryd.prog (w6.drewN m) = .ok (.string ⟨(l.take U).toArray⟩) (w6.drewN m) := by
          intro m
          have := run_str ((hr5.below hb6).drewN m) c5
          rwa [hlu] at this
        rw [bs_take] at hrb
        have k2 : ∀ m, (convert 22 9 (.slice (some ⟨b, off, none⟩) U c)).run Tryd.prog (w6.drewN m) = .ok (.string ⟨(l.take U).toArray⟩) (w6.drewN m) := by
          intro m
          have := run_str (l := l.take U) (by rw [hlu]; exact hrb.drewN m) c
          rwa [hlu] at this
        clear hrb
        have HBF := Lib.hid (HBB.out.trans (hb56.mono HBB.out.size))
        clear hlu hb5 hb6 hb56 hr5 hr6 HR HBB hcell h0
        go_wp2_with fail
        go_quiet (fail)
        go_wp2
        go_ret
        exact ⟨rfl, below_drewN HBF.out _⟩
end Go.Proofs.YtkbbkamnmdeagaaDoor
