/-
  The reference's Check of settings: its contract. Condition: the bound on the bytes.
-/
import Derived.Test.YtkbbkamnmdeagaaDoorRefChk
import Derived.Test.YtkbbkamnmdeagaaDoorMid
import Derived.Deep.CutRange
namespace Go.Proofs.YtkbbkamnmdeagaaDoor
open Go.RowKit

theorem pc6_id (b : List UInt8) (j : Nat) : setId (pc6 b j) = beNat ((b.drop (6 * j)).take 2) := by
  unfold setId pc6
  rw [List.take_take, Nat.min_eq_left (by omega)]
theorem pc6_x (b : List UInt8) (j : Nat) : setX (pc6 b j) = beNat ((b.drop (6 * j + 2)).take 4) := by
  unfold setX pc6
  rw [← List.drop_drop, List.drop_take, List.take_take]
  rfl
theorem chk4_loop {F : Int} {b : List UInt8} (h6 : b.length % 6 = 0) (hF : 0 < b.length → oddF F = false) : chkF ⟨4, F, 0, b⟩ = setsChk b := by
  have : ¬ (b.length % 6 ≠ 0 ∨ (0 < b.length ∧ oddF F = true)) := by
    rintro (h | ⟨h, h2⟩)
    · exact h h6
    · rw [hF h] at h2
      cases h2
  simp only [chkF]
  rw [if_neg (by simp), if_neg (by simp), if_neg (by simp), if_neg (by simpa using this), if_neg (by simp), if_pos trivial]

set_option maxRecDepth 100000 in
set_option maxHeartbeats 4000000 in
theorem rchk4_loop (F : Int) (body : List UInt8) (A : Option Addr) (c : Nat) (hcap : body.length ≤ c) (hm : body.length ≤ 140737488355328) (w : World) (hr : Reads w w.heap.size 1 A body.length (bs body)) (h6 : body.length % 6 = 0) (hF : 0 < body.length → oddF F = false) :
    Calls Tryd.prog 38 #[frV ⟨4, F, 0, body⟩ A c] w fun e w' => e = .returned (.int .i64 ((chkF ⟨4, F, 0, body⟩ : Nat) : Int)) ∧ Below w.heap.size w w' := by
  have HV := Lib.hid (chk4_loop h6 hF)
  have HR := Lib.hid hr
  have hand := and_one F
  obtain ⟨n, hn0⟩ : ∃ n, body.length = n := ⟨_, rfl⟩
  have hrem := rem6 body.length hm
  rw [hn0] at hm h6 hF hrem hcap
  have H6 := Lib.hid (And.intro h6 (And.intro hF hn0))
  rw [h6] at hrem
  unfold frV
  rw [hn0]
  have hW : Blk (w.alloc (.cells #[.int .i64 4, .int .i64 F, .int .i64 0, .slice A n c] 50)) w.heap.size 50 #[.int .i64 4, .int .i64 F, .int .i64 0, .slice A n c] := Blk.new w _ _
  have HW := Lib.hid hW
  by_cases hn : n = 0
  · have HL : Hid (setsChk body = 0) := setsChk_none (b := body) fun j hj => by omega
    subst hn
    have HC : Hid (chkF ⟨4, F, 0, body⟩ = 0) := HV.out.trans HL.out
    clear h6 hF hand hn0 hW hr
    rw [HC.out]
    go_enter Tryd.func38, Tryd.ntmps38
    go_wp2
    go_loopw [6] (fun i wr => i = .int .i64 0 ∧ Hid (Below w.heap.size w wr)) (fun _ _ => 0)
    case atStart => exact ⟨rfl, (Below.refl _ _).alloc (Nat.le_refl _) _⟩
    case round =>
      obtain ⟨rfl, HBB⟩ := hrel
      go_wp2
      go_ret
      exact ⟨rfl, HBB.out⟩
  · have hFo := hF (by omega)
    rw [hFo, if_neg (by simp)] at hand
    have hni : (0 : Int) < ((n : Nat) : Int) := by omega
    have hnd := decide_eq_true hni
    have hn1 : 0 < n := by omega
    have hnd1 := decide_eq_true hn1
    obtain ⟨m, hm6⟩ : ∃ m, n = 6 * m := ⟨n / 6, by omega⟩
    have HN := Lib.hid (And.intro hm6 hn0)
    rw [HV.out]
    clear h6 hF hFo hn hm6 hn0 hW hr
    go_enter Tryd.func38, Tryd.ntmps38
    go_wp2
    go_loopw [6] (fun i wr => ∃ k : Nat, k ≤ m ∧ i = .int .i64 ((6 * k : Nat) : Int) ∧ Hid (∀ j, j < k → setBad (pc6 body j) = 0) ∧ wr = w.alloc (.cells #[.int .i64 4, .int .i64 F, .int .i64 0, .slice A n c] 50)) (fun i _ => n - (intOf i).toNat)
    case atStart => exact ⟨0, Nat.zero_le _, rfl, fun j hj => absurd hj (by omega), rfl⟩
    case round =>
      obtain ⟨k, hk, rfl, HK, rfl⟩ := hrel
      by_cases hlt : k < m
      · obtain ⟨bb, off, y0, rfl, hbB, -⟩ := reads_head HR.out (by have := HN.out.2; omega)
        obtain ⟨I, hI⟩ : ∃ I, 6 * k = I := ⟨_, rfl⟩
        have hI6 : I + 6 ≤ n := by have := HN.out.1; omega
        have h1 := reads_mid (c := c) HR.out (at_ := I) (n := 2) (by have := HN.out.2; omega) (by have := HN.out.2; omega)
        have h2 := reads_mid (c := c) HR.out (at_ := I + 2) (n := 4) (by have := HN.out.2; omega) (by have := HN.out.2; omega)
        rw [if_neg (by omega)] at h1 h2
        have hid := pc6_id body k
        have hx := pc6_x body k
        rw [hI] at hid hx
        have hl2 : ((body.drop I).take 2).length = 2 := by have := HN.out.2; simp; omega
        have hl4 : ((body.drop (I + 2)).take 4).length = 4 := by have := HN.out.2; simp; omega
        have hst := fun (hb : setBad (pc6 body k) ≠ 0) => setsChk_first (b := body) (k := k) (by have := HN.out; omega) HK.out hb
        have hsb : setBad (pc6 body k) = if beNat ((body.drop I).take 2) = 4 ∧ 2147483647 < beNat ((body.drop (I + 2)).take 4) then 3 else if beNat ((body.drop I).take 2) = 5 ∧ beNat ((body.drop (I + 2)).take 4) < 1024 then 1 else 0 := by
          unfold setBad
          rw [hid, hx]
        have H1 := Lib.hid (h1.alloc (Nat.le_refl _) (.cells #[.int .i64 4, .int .i64 F, .int .i64 0, .slice (some ⟨bb, off, none⟩) n c] 50))
        have H2 := Lib.hid (h2.alloc (Nat.le_refl _) (.cells #[.int .i64 4, .int .i64 F, .int .i64 0, .slice (some ⟨bb, off, none⟩) n c] 50))
        have HL2 := Lib.hid hl2
        have HL4 := Lib.hid hl4
        have HIE := Lib.hid hI
        have HKM := Lib.hid hk
        rw [hI]
        have i1 : ((I : Nat) : Int) < ((n : Nat) : Int) := by omega
        clear hid hx h1 h2 hl2 hl4 hI hk
        go_wp2_with fail
        refine (rword_any ((body.drop I).take 2) (by rw [HL2.out]; omega) _ 2 _ HL2.out.symm w.heap.size _ (by rw [HL2.out]; exact H1.out)).mono ?_
        rintro e w' ⟨rfl, rfl⟩
        go_wp2_with fail
        refine (rword_any ((body.drop (I + 2)).take 4) (by rw [HL4.out]; omega) _ 4 _ HL4.out.symm w.heap.size _ (by rw [HL4.out]; exact H2.out)).mono ?_
        rintro e w' ⟨rfl, rfl⟩
        generalize beNat ((body.drop I).take 2) = id at *
        generalize beNat ((body.drop (I + 2)).take 4) = x at *
        by_cases a4 : id = 4
        · by_cases ax : 2147483647 < x
          · rw [if_pos ⟨a4, ax⟩] at hsb
            have HST := Lib.hid (show 3 = setsChk body by rw [hst (by rw [hsb]; omega), hsb])
            have j1 : (2147483647 : Int) < ((x : Nat) : Int) := by omega
            have j2 := decide_eq_true j1
            subst a4
            clear hst hsb
            go_wp2
            go_ret
            exact ⟨congrArg (fun z : Nat => Ending.returned (Value.int .i64 (z : Int))) HST.out, (Below.refl _ _).alloc (Nat.le_refl _) _⟩
          · rw [if_neg (fun h => ax h.2), if_neg (fun h => by have := h.1; omega)] at hsb
            have HSB := Lib.hid hsb
            have j1 : ¬ (2147483647 : Int) < ((x : Nat) : Int) := by omega
            have j2 := decide_eq_false j1
            subst a4
            clear hst hsb
            go_wp2
            go_roundw
            case rel => exact ⟨k + 1, by omega, by rw [← HIE.out]; go_num, (fun j hj => by rcases Nat.lt_succ_iff_lt_or_eq.1 hj with h | h; exact HK.out j h; subst h; exact HSB.out), trivial⟩
            case measure => have := HIE.out; simp [intOf]; omega
        · have j3 : (((id : Nat) : Int) == 4) = false := (eqb id 4).trans (decide_eq_false a4)
          have j4 : ¬ ((id : Nat) : Int) = 4 := by omega
          by_cases a5 : id = 5
          · by_cases ax : x < 1024
            · rw [if_neg (fun h => a4 h.1), if_pos ⟨a5, ax⟩] at hsb
              have HST := Lib.hid (show 1 = setsChk body by rw [hst (by rw [hsb]; omega), hsb])
              have j1 : ((x : Nat) : Int) < 1024 := by omega
              have j2 := decide_eq_true j1
              subst a5
              clear hst hsb
              go_wp2
              go_ret
              exact ⟨congrArg (fun z : Nat => Ending.returned (Value.int .i64 (z : Int))) HST.out, (Below.refl _ _).alloc (Nat.le_refl _) _⟩
            · rw [if_neg (fun h => a4 h.1), if_neg (fun h => ax h.2)] at hsb
              have HSB := Lib.hid hsb
              have j1 : ¬ ((x : Nat) : Int) < 1024 := by omega
              have j2 := decide_eq_false j1
              subst a5
              clear hst hsb
              go_wp2
              go_roundw
              case rel => exact ⟨k + 1, by omega, by rw [← HIE.out]; go_num, (fun j hj => by rcases Nat.lt_succ_iff_lt_or_eq.1 hj with h | h; exact HK.out j h; subst h; exact HSB.out), trivial⟩
              case measure => have := HIE.out; simp [intOf]; omega
          · rw [if_neg (fun h => a4 h.1), if_neg (fun h => a5 h.1)] at hsb
            have HSB := Lib.hid hsb
            have j1 : (((id : Nat) : Int) == 5) = false := (eqb id 5).trans (decide_eq_false a5)
            have j2 : ¬ ((id : Nat) : Int) = 5 := by omega
            clear hst hsb
            go_wp2
            go_roundw
            case rel => exact ⟨k + 1, by omega, by rw [← HIE.out]; go_num, (fun j hj => by rcases Nat.lt_succ_iff_lt_or_eq.1 hj with h | h; exact HK.out j h; subst h; exact HSB.out), trivial⟩
            case measure => have := HIE.out; simp [intOf]; omega
      · have hkm : k = m := by omega
        subst hkm
        have HST := Lib.hid (show 0 = setsChk body from (setsChk_none (b := body) fun j hj => HK.out j (by have := HN.out; omega)).symm)
        have hin : ((6 * k : Nat) : Int) = ((n : Nat) : Int) := by have := HN.out.1; omega
        obtain ⟨I, hI⟩ : ∃ I : Int, ((6 * k : Nat) : Int) = I := ⟨_, rfl⟩
        have i1 : ¬ ((6 * k : Nat) : Int) < ((n : Nat) : Int) := by omega
        have i2 := decide_eq_false i1
        rw [hI] at i1 i2 ⊢
        clear hin hI hlt hk
        go_wp2
        go_ret
        exact ⟨congrArg (fun z : Nat => Ending.returned (Value.int .i64 (z : Int))) HST.out, (Below.refl _ _).alloc (Nat.le_refl _) _⟩
set_option maxRecDepth 100000 in
set_option maxHeartbeats 4000000 in
theorem rchk4 (F S : Int) (body : List UInt8) (A : Option Addr) (c : Nat) (hm : body.length ≤ 140737488355328) (w : World) (hr : Reads w w.heap.size 1 A body.length (bs body)) (hcap : body.length ≤ c) :
    Calls Tryd.prog 38 #[frV ⟨4, F, S, body⟩ A c] w fun e w' => e = .returned (.int .i64 ((chkF ⟨4, F, S, body⟩ : Nat) : Int)) ∧ Below w.heap.size w w' := by
  obtain ⟨n, hn0⟩ : ∃ n, body.length = n := ⟨_, rfl⟩
  rw [hn0] at hm
  by_cases hS : S = 0
  · subst hS
    have hrem := rem6 n hm
    have hand := and_one F
    obtain ⟨r, hr6⟩ : ∃ r, n % 6 = r := ⟨_, rfl⟩
    rw [hr6] at hrem
    by_cases h6 : r = 0
    · by_cases hF : 0 < n ∧ oddF F = true
      · have HV := Lib.hid (show 6 = chkF ⟨4, F, 0, body⟩ by simp [chkF, hn0, hF.1, hF.2])
        rw [hF.2, if_pos rfl] at hand
        have i1 : (0 : Int) < ((n : Nat) : Int) := by omega
        have i2 := decide_eq_true i1
        have i3 := hF.1
        have i4 := decide_eq_true hF.1
        have i5 : (((r : Nat) : Int) != 0) = false := by subst h6; rfl
        have H6 := Lib.hid (And.intro hr6 h6)
        clear hF hr6
        subst h6
        unfold frV
        rw [hn0]
        go_enter Tryd.func38, Tryd.ntmps38
        go_wp2
        go_ret
        exact ⟨congrArg (fun z : Nat => Ending.returned (Value.int .i64 (z : Int))) HV.out, (Below.refl _ _).alloc (Nat.le_refl _) _⟩
      · exact rchk4_loop F body A c hcap (by omega) w hr (by omega) (fun h0 => by
          cases hO : oddF F with
          | true => exact absurd ⟨by omega, hO⟩ hF
          | false => rfl)
    · have i1 : (((r : Nat) : Int) == 0) = false := (eqb r 0).trans (decide_eq_false h6)
      have i2 : (((r : Nat) : Int) != 0) = true := by rw [bne, i1]; rfl
      have i3 : ¬ ((r : Nat) : Int) = 0 := by omega
      have HV := Lib.hid (show 6 = chkF ⟨4, F, 0, body⟩ by simp [chkF, hn0, hr6, h6])
      clear hr6
      unfold frV
      rw [hn0]
      go_enter Tryd.func38, Tryd.ntmps38
      go_wp2
      go_ret
      exact ⟨congrArg (fun z : Nat => Ending.returned (Value.int .i64 (z : Int))) HV.out, (Below.refl _ _).alloc (Nat.le_refl _) _⟩
  · have s1 : (S == 0) = false := beq_eq_false_iff_ne.2 hS
    have s2 : (S != 0) = true := by rw [bne, s1]; rfl
    have HV := Lib.hid (show 1 = chkF ⟨4, F, S, body⟩ by simp [chkF, hn0, hS])
    unfold frV
    rw [hn0]
    go_enter Tryd.func38, Tryd.ntmps38
    go_wp2
    go_ret
    exact ⟨congrArg (fun z : Nat => Ending.returned (Value.int .i64 (z : Int))) HV.out, (Below.refl _ _).alloc (Nat.le_refl _) _⟩
/-- The reference's Check. -/
theorem rcheck_any (f : Frm) (A : Option Addr) (c : Nat) (hcap : f.body.length ≤ c) (hm : f.body.length ≤ 140737488355328) (w : World) (hr : Reads w w.heap.size 1 A f.body.length (bs f.body)) :
    Calls Tryd.prog 38 #[frV f A c] w fun e w' => e = .returned (.int .i64 ((chkF f : Nat) : Int)) ∧ Below w.heap.size w w' := by
  obtain ⟨K, F, S, body⟩ := f
  simp only at hcap hm hr
  rcases (by omega : K = 0 ∨ K = 1 ∨ K = 2 ∨ K = 3 ∨ K = 4 ∨ K = 5 ∨ K = 6 ∨ K = 7 ∨ (K < 0 ∨ 7 < K)) with rfl | rfl | rfl | rfl | rfl | rfl | rfl | rfl | hK
  · exact rchk0 F S body A c hm w hr
  · exact rchk1 F S body A c hm w hr
  · exact rchk2 F S body A c hm w hr
  · exact rchk3 F S body A c hm w hr
  · exact rchk4 F S body A c hm w hr hcap
  · exact rchk5 F S body A c hm w hr
  · exact rchk6 F S body A c hm w hr
  · exact rchk7 F S body A c hm w hr
  · exact rchko F S body A c hm w hr K hK
end Go.Proofs.YtkbbkamnmdeagaaDoor
