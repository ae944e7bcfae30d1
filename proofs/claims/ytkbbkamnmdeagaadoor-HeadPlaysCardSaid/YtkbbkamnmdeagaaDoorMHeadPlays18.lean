/-
  The reference's Put by one contract. No condition.
  A text as bytes: the contract of the reference's Text. Condition: none (a text over 400 bytes is a fault).
  The reference's Get where the first byte is full. Condition: the length's bound.
-/
import Derived.Test.YtkbbkamnmdeagaaDoorMHeadPlays06
import Derived.Test.YtkbbkamnmdeagaaDoorMHeadPlays17
namespace Go.Proofs.YtkbbkamnmdeagaaDoor
open Go.RowKit

theorem rpow_nat (t p : Nat) (ht : t ≤ 8) (hp : p = 2 ^ t) (W : World) : Calls Tryd.prog 68 #[.int .i64 (t : Int)] W fun e w' => e = .returned (.int .i64 (p : Int)) ∧ W = w' := by
  have h := rpow_any (t : Int) (by omega) (by omega) W
  rw [Int.toNat_natCast] at h
  subst hp
  simpa using h

theorem rput_one (n f t : Nat) (ht : 1 ≤ t) (ht8 : t ≤ 8) (hf : f ≤ 255) (hf0 : f % 2 ^ t = 0) (hlt : n < 2 ^ t - 1) (w : World) :
    Calls Tryd.prog 18 #[.int .i64 n, .int .i64 t, .int .i64 f] w fun e w' => ∃ v, e = .returned (.tuple #[v, .int .i64 0]) ∧ w'.ownsRow w.heap.size 5 1 v (putN n t f).length (bs (putN n t f)) ∧ Below w.heap.size w w' := by
  have hp := pow2_bounds ht ht8
  rw [putN_one hlt]
  have hq : f = f / 2 ^ t * 2 ^ t := by
    have := Nat.div_add_mod f (2 ^ t)
    rw [hf0, Nat.mul_comm] at this
    omega
  have hsum : f + n ≤ 255 := by
    have h1 : f / 2 ^ t * 2 ^ t + 2 ^ t ≤ 256 := by
      rcases (by omega : t = 1 ∨ t = 2 ∨ t = 3 ∨ t = 4 ∨ t = 5 ∨ t = 6 ∨ t = 7 ∨ t = 8) with rfl | rfl | rfl | rfl | rfl | rfl | rfl | rfl <;> simp only [Nat.reducePow] at * <;> omega
    omega
  have HP := Lib.hid (rfl : 2 ^ t = 2 ^ t)
  have HF := Lib.hid hf0
  clear hq hf0
  clear HP
  generalize hpp : 2 ^ t = p at *
  have HP := Lib.hid hpp.symm
  have hmod : ((f : Int) % (p : Int)) = 0 := by
    rw [← Int.natCast_emod, HF.out]
    rfl
  have h1 : (n : Int) < (p : Int) - 1 := by omega
  clear hpp HF hlt
  go_enter Tryd.func18, Tryd.ntmps18
  go_wp2_with (go_at_call 68; refine (rpow_nat t p ht8 HP.out _).mono ?_; rintro e w' ⟨rfl, rfl⟩)
  go_ret2
  refine ⟨_, rfl, own_new w _ _ _ 1 ?_ (by simp [bs]) (by decide), (Below.refl _ _).alloc (Nat.le_refl _) _⟩
  rw [bs_single (UInt8.ofNat (f + n)) ((f : Int) + n) (by simp only [UInt8.toNat_ofNat']; omega)]

set_option maxRecDepth 100000 in
set_option maxHeartbeats 1000000 in
theorem rput_more (n f t : Nat) (ht : 1 ≤ t) (ht8 : t ≤ 8) (hn : n ≤ 2147483647) (hf : f ≤ 255) (hf0 : f % 2 ^ t = 0) (hlt : ¬ n < 2 ^ t - 1) (w : World) :
    Calls Tryd.prog 18 #[.int .i64 n, .int .i64 t, .int .i64 f] w fun e w' => ∃ v, e = .returned (.tuple #[v, .int .i64 0]) ∧ w'.ownsRow w.heap.size 5 1 v (putN n t f).length (bs (putN n t f)) ∧ Below w.heap.size w w' := by
  have hp := pow2_bounds ht ht8
  have HL := Lib.hid (putN_pos (first := f) hlt)
  generalize putN n t f = L at *
  have hq : f = f / 2 ^ t * 2 ^ t := by
    have := Nat.div_add_mod f (2 ^ t)
    rw [hf0, Nat.mul_comm] at this
    omega
  have hsum : f + (2 ^ t - 1) ≤ 255 := by
    have h1 : f / 2 ^ t * 2 ^ t + 2 ^ t ≤ 256 := by
      rcases (by omega : t = 1 ∨ t = 2 ∨ t = 3 ∨ t = 4 ∨ t = 5 ∨ t = 6 ∨ t = 7 ∨ t = 8) with rfl | rfl | rfl | rfl | rfl | rfl | rfl | rfl <;> simp only [Nat.reducePow] at * <;> omega
    omega
  have HF := Lib.hid hf0
  clear hq hf0
  generalize hpp : 2 ^ t = p at *
  have HP := Lib.hid hpp.symm
  have hmod : ((f : Int) % (p : Int)) = 0 := by
    rw [← Int.natCast_emod, HF.out]
    rfl
  have h1 : decide ((n : Int) < (p : Int) - 1) = false := by simp; omega
  have ht1 : decide ((t : Int) < 1) = false := by simp; omega
  have ht9 : decide ((8 : Int) < (t : Int)) = false := by simp; omega
  have hn9 : decide ((2147483647 : Int) < (n : Int)) = false := by simp; omega
  have hf9 : decide ((255 : Int) < (f : Int)) = false := by simp; omega
  clear hpp HF
  go_enter Tryd.func18, Tryd.ntmps18
  go_wp2_with (go_at_call 68; refine (rpow_nat t p ht8 HP.out _).mono ?_; rintro e w' ⟨rfl, rfl⟩)
  clear hmod
  go_loopw [0, 9] (fun x b wr => ∃ (m : Nat) (xs : List UInt8), x = .int .i64 m ∧ 1 ≤ xs.length ∧ xs.length + m ≤ 2147483648 ∧ wr.ownsRow w.heap.size 5 1 b xs.length (bs xs) ∧ Below w.heap.size w wr ∧ Hid (xs ++ cont m = L)) (fun x _ _ => (intOf x).toNat)
  case atStart =>
    refine ⟨n - (p - 1), [UInt8.ofNat (f + (p - 1))], by go_num, by simp, by simp; omega, ?_, (Below.refl _ _).alloc (Nat.le_refl _) _, HL.out.symm⟩
    refine own_new w _ _ _ 1 ?_ (by simp [bs]) (by decide)
    rw [bs_single (UInt8.ofNat (f + (p - 1))) ((f : Int) + ((p : Int) - 1)) (by simp only [UInt8.toNat_ofNat']; omega)]
    first | rfl | (simp; omega)
  case round =>
    obtain ⟨m, xs, rfl, hx1, hxm, hown, hb, HX⟩ := hrel
    clear HL
    have hsz := hb.size
    by_cases hge : m < 128
    · have hm : (m : Int) % 256 = m := by omega
      have e := HX.out
      rw [cont_last hge] at e
      have HE := Lib.hid e
      clear e HX hn9 hf9 ht1 ht9 h1
      go_wp2_with (at_builtin; refine wpList_push rfl _ _ rfl w.heap.size _ _ _ rfl hown rfl rfl (by omega) hsz ?_; intro v' w' hown' hb')
      go_ret2
      refine ⟨_, rfl, ?_, hb.trans hb'⟩
      rw [← HE.out, bs_append, List.length_append]
      rw [bs_single (UInt8.ofNat m) (m : Int) (by simp only [UInt8.toNat_ofNat']; omega)]
      exact hown'
    · have e := HX.out
      rw [cont_more hge] at e
      have HE := Lib.hid e
      clear e HX
      go_wp2_with (at_builtin; refine wpList_push rfl _ _ rfl w.heap.size _ _ _ rfl hown rfl rfl (by omega) hsz ?_; intro v' w' hown' hb')
      go_roundw
      case rel =>
        refine ⟨m / 128, xs ++ [UInt8.ofNat (m % 128 + 128)], by go_num, by simp, by simp; omega, ?_, hb.trans hb', ?_⟩
        · rw [bs_append, List.length_append]
          rw [bs_single (UInt8.ofNat (m % 128 + 128)) ((m % 128 + 128 : Nat) : Int) (by simp only [UInt8.toNat_ofNat']; omega)]
          exact hown'
        · show _ = _
          rw [List.append_assoc]
          exact HE.out
      case measure => simp [intOf]; omega

theorem rput_bad (n bits first : Int) (hb : ¬ putOk n bits first) (w : World) :
    Calls Tryd.prog 18 #[.int .i64 n, .int .i64 bits, .int .i64 first] w fun e w' => e = .returned (.tuple #[.slice none 0 0, .int .i64 1]) ∧ w = w' := by
  by_cases h1 : bits < 1
  · clear hb
    go_enter Tryd.func18, Tryd.ntmps18
    go_wp2
    go_ret2
    exact ⟨rfl, rfl⟩
  by_cases h8 : 8 < bits
  · clear hb
    go_enter Tryd.func18, Tryd.ntmps18
    go_wp2
    go_ret2
    exact ⟨rfl, rfl⟩
  by_cases h0 : n < 0
  · clear hb
    go_enter Tryd.func18, Tryd.ntmps18
    go_wp2
    go_ret2
    exact ⟨rfl, rfl⟩
  by_cases hM : 2147483647 < n
  · clear hb
    go_enter Tryd.func18, Tryd.ntmps18
    go_wp2
    go_ret2
    exact ⟨rfl, rfl⟩
  by_cases hf : first < 0
  · clear hb
    go_enter Tryd.func18, Tryd.ntmps18
    go_wp2
    go_ret2
    exact ⟨rfl, rfl⟩
  by_cases hf5 : 255 < first
  · clear hb
    go_enter Tryd.func18, Tryd.ntmps18
    go_wp2
    go_ret2
    exact ⟨rfl, rfl⟩
  have hne : ¬ first % 2 ^ bits.toNat = 0 := fun h => hb ⟨by omega, by omega, by omega, by omega, by omega, by omega, h⟩
  clear hb
  obtain ⟨t, rfl⟩ := Int.eq_ofNat_of_zero_le (show 0 ≤ bits by omega)
  obtain ⟨f, rfl⟩ := Int.eq_ofNat_of_zero_le (show 0 ≤ first by omega)
  rw [Int.toNat_natCast] at hne
  have hne2 : ¬ f % 2 ^ t = 0 := by
    intro h
    apply hne
    have := Int.natCast_emod f (2 ^ t)
    rw [h] at this
    simpa using this.symm
  have hp := pow2_bounds (show 1 ≤ t by omega) (show t ≤ 8 by omega)
  clear hne
  have HX := Lib.hid (Int.natCast_emod f (2 ^ t))
  generalize f % 2 ^ t = x at *
  generalize hpp : 2 ^ t = p at *
  have HP := Lib.hid hpp.symm
  have hx : (((f : Int) % (p : Int)) == 0) = false := by
    rw [← HX.out]
    simp
    omega
  have ht8 : t ≤ 8 := by omega
  clear HX hne2 hpp
  go_enter Tryd.func18, Tryd.ntmps18
  go_wp2_with (go_at_call 68; refine (rpow_nat t p ht8 HP.out _).mono ?_; rintro e w' ⟨rfl, rfl⟩)
  go_ret2
  exact ⟨rfl, rfl⟩

theorem rput_any (n bits first : Int) (w : World) :
    Calls Tryd.prog 18 #[.int .i64 n, .int .i64 bits, .int .i64 first] w fun e w' => ∃ v, e = .returned (.tuple #[v, .int .i64 (putE n bits first : Nat)]) ∧ w'.ownsRow w.heap.size 5 1 v (putL n bits first).length (bs (putL n bits first)) ∧ Below w.heap.size w w' := by
  by_cases h : putOk n bits first
  · have e1 : putE n bits first = 0 := by simp [putE, h]
    have e2 : putL n bits first = putN n.toNat bits.toNat first.toNat := by simp [putL, h]
    rw [e1, e2]
    obtain ⟨h1, h8, h0, hM, hf0, hf5, hmod⟩ := h
    obtain ⟨m, rfl⟩ := Int.eq_ofNat_of_zero_le h0
    obtain ⟨t, rfl⟩ := Int.eq_ofNat_of_zero_le (show 0 ≤ bits by omega)
    obtain ⟨f, rfl⟩ := Int.eq_ofNat_of_zero_le hf0
    simp only [Int.toNat_natCast] at *
    have hmod2 : f % 2 ^ t = 0 := by
      have h2 := Int.natCast_emod f (2 ^ t)
      have h3 : ((f : Int) % ((2 ^ t : Nat) : Int)) = 0 := by simpa using hmod
      omega
    by_cases hlt : m < 2 ^ t - 1
    · exact rput_one m f t (by omega) (by omega) (by omega) hmod2 hlt w
    · exact rput_more m f t (by omega) (by omega) (by omega) (by omega) hmod2 hlt w
  · have e1 : putE n bits first = 1 := by simp [putE, h]
    have e2 : putL n bits first = [] := by simp [putL, h]
    rw [e1, e2]
    refine (rput_bad n bits first h w).mono ?_
    rintro e w' ⟨he, rfl⟩
    exact ⟨_, he, World.ownsRow_nil _ _ _ _, Below.refl _ _⟩
end Go.Proofs.YtkbbkamnmdeagaaDoor
namespace Go.Proofs.YtkbbkamnmdeagaaDoor
open Go.RowKit

set_option maxRecDepth 100000 in
set_option maxHeartbeats 4000000 in
theorem rtext_any (l : List UInt8) (w : World) (hlm : l.length ≤ 140737488355328) :
    Calls Tryd.prog 33 #[.string ⟨l.toArray⟩] w fun e w' => ∃ v, e = .returned (.tuple #[v, .int .i64 (txtE l : Nat)]) ∧ w'.ownsRow w.heap.size 5 1 v (txtL l).length (bs (txtL l)) ∧ Below w.heap.size w w' := by
  by_cases h4 : 400 < l.length
  · have e1 : txtE l = 4 := by simp [txtE, h4]
    have e2 : txtL l = [] := by simp [txtL, h4]
    rw [e1, e2]
    go_enter Tryd.func33, Tryd.ntmps33
    go_wp2
    go_ret2
    exact ⟨_, rfl, World.ownsRow_nil _ _ _ _, Below.refl _ _⟩
  · have e1 : txtE l = 0 := by simp [txtE, h4]
    have e2 : txtL l = putL ((txtC l).length : Nat) 7 (txtF l) ++ txtC l := by simp [txtL, h4]
    have HE := Lib.hid (txt_putE l (by omega))
    have HT := Lib.hid e2
    rw [e1]
    clear e1 e2
    by_cases hle : l.length ≤ (enc l).length
    · have e3 : txtC l = l := by simp [txtC, hle]
      have e4 : txtF l = 0 := by simp [txtF, hle]
      rw [e3, e4] at HE HT
      clear e3 e4
      go_enter Tryd.func33, Tryd.ntmps33
      go_wp2_with fail
      refine (rcode_gave l (by omega) w).mono ?_
      rintro e w1 ⟨A1, c1, rfl, hc1, hr1, hb1⟩
      obtain ⟨c2, w2, hk, hc2, hr2, hb2, hz2⟩ := conv_bytes w1 l
      have hb12 := hb1.trans (hb2.mono hb1.size)
      have HB := Lib.hid hb12
      have hs12 := hb12.size
      clear hr1 hb1 hb2 hb12
      go_wp2_with fail
      refine (rput_any (l.length : Nat) 7 0 w2).mono ?_
      rintro e w3 ⟨v, rfl, hown, hb3⟩
      rw [HE.out]
      have hr3 := hr2.below hb3
      have hs3 := hb3.size
      have hp6 : (putL (l.length : Nat) 7 0).length ≤ 1000 := txt_putL_len _ _ (by omega)
      go_wp2_with (at_builtin; refine wpList_join rfl _ _ rfl w2.heap.size _ _ _ rfl hown w2.heap.size _ l.length c2 (bs l) rfl hr3 (bs_one l) (by omega) hs3 ?_; intro v4 w4 hown4 hb4)
      go_ret2
      refine ⟨_, rfl, ?_, HB.out.trans ((hb3.trans hb4).mono hs12)⟩
      rw [HT.out]
      exact own_mono (txt_own hown4) hs12
    · have e3 : txtC l = enc l := by simp [txtC, hle]
      have e4 : txtF l = 128 := by simp [txtF, hle]
      rw [e3, e4] at HE HT
      clear e3 e4
      go_enter Tryd.func33, Tryd.ntmps33
      go_wp2_with fail
      refine (rcode_gave l (by omega) w).mono ?_
      rintro e w1 ⟨A1, c1, rfl, hc1, hr1, hb1⟩
      have HB := Lib.hid hb1
      have hs1 := hb1.size
      clear hb1
      go_wp2_with fail
      refine (rput_any ((enc l).length : Nat) 7 128 w1).mono ?_
      rintro e w3 ⟨v, rfl, hown, hb3⟩
      rw [HE.out]
      have hr3 := hr1.below hb3
      have hs3 := hb3.size
      have hp6 : (putL ((enc l).length : Nat) 7 128).length ≤ 1000 := txt_putL_len _ _ (by omega)
      go_wp2_with (at_builtin; refine wpList_join rfl _ _ rfl w1.heap.size _ _ _ rfl hown w1.heap.size _ (enc l).length c1 (bs (enc l)) rfl hr3 (bs_one (enc l)) (by omega) hs3 ?_; intro v4 w4 hown4 hb4)
      go_ret2
      refine ⟨_, rfl, ?_, HB.out.trans ((hb3.trans hb4).mono hs1)⟩
      rw [HT.out]
      exact own_mono (txt_own hown4) hs1
end Go.Proofs.YtkbbkamnmdeagaaDoor
namespace Go.Proofs.YtkbbkamnmdeagaaDoor
open Go.RowKit

set_option maxRecDepth 100000 in
set_option maxHeartbeats 4000000 in
theorem rget_more (r : List UInt8) (c0 : UInt8) (t : Nat) (ht : 1 ≤ t) (ht8 : t ≤ 8) (A : Option Addr) (n c : Nat) (hn : n = r.length + 1) (hm : r.length ≤ 140737488355328) (B : Nat) (w : World) (hr : Reads w B 1 A (r.length + 1) (bs (c0 :: r)))
    (hlt : ¬ c0.toNat % 2 ^ t < 2 ^ t - 1) (N U E : Nat) (hR : getFrom 0 (c0.toNat % 2 ^ t) r = (N, U, E)) :
    Calls Tryd.prog 20 #[.slice A n c, .int .i64 t] w fun e w' => e = .returned (.tuple #[.int .i64 (N : Int), .int .i64 (U : Int), .int .i64 (E : Int)]) ∧ w = w' := by
  subst hn
  obtain ⟨b, off, rfl, hbB, hall⟩ := hr.form (by omega)
  have h0 : w.cell? ⟨b, off, none⟩ = some (.int .u8 (c0.toNat : Int)) := hall 0 _ rfl
  have HC : Hid (∀ k (hk : k < r.length), w.cell? ⟨b, off + (k + 1), none⟩ = some (.int .u8 (r[k].toNat : Int))) := by
    intro k hk
    exact hall (k + 1) (.int .u8 (r[k].toNat : Int)) (by simp [bs, hk])
  have hb : c0.toNat < 256 := c0.toNat_lt
  have hp := pow2_bounds ht ht8
  have HPC : ∀ W : World, Calls Tryd.prog 68 #[.int .i64 (t : Int)] W fun e w' => e = .returned (.int .i64 ((2 ^ t : Nat) : Int)) ∧ W = w' := by
    intro W
    have h := rpow_any (t : Int) (by omega) (by omega) W
    rw [Int.toNat_natCast] at h
    simpa using h
  have HH := Lib.hid HPC
  have HX := Lib.hid (Int.natCast_emod c0.toNat (2 ^ t))
  have hx8 := Nat.mod_lt c0.toNat (show 0 < 2 ^ t by omega)
  have HR := Lib.hid hR
  have H0 := Lib.hid h0
  clear hall hr hR hbB h0 HPC
  generalize c0.toNat % 2 ^ t = x0 at *
  generalize c0.toNat = y0 at *
  generalize 2 ^ t = p at *
  have hd : decide ((y0 : Int) % (p : Int) < (p : Int) - 1) = false := by
    rw [← HX.out]
    simp
    omega
  have ht1 : decide ((t : Int) < 1) = false := by simp; omega
  have ht9 : decide ((8 : Int) < (t : Int)) = false := by simp; omega
  have hx0 : x0 ≤ 255 := by omega
  clear hlt
  have h0 := H0.out
  clear H0
  go_enter Tryd.func20, Tryd.ntmps20
  go_wp2_with (go_at_call 68; refine (HH.out _).mono ?_; rintro e w' ⟨rfl, rfl⟩)
  clear h0
  go_loop [8, 9, 10, 11] (fun n by_ i _ => ∃ k x : Nat, k ≤ 4 ∧ k ≤ r.length ∧ i = .int .i64 ((k + 1 : Nat) : Int) ∧ by_ = .int .i64 ((128 ^ k : Nat) : Int) ∧ n = .int .i64 x ∧ x ≤ 2147483647 ∧ Hid (getFrom k x (r.drop k) = (N, U, E))) (fun _ _ i _ => r.length + 1 - (intOf i).toNat)
  case atStart => exact ⟨0, x0, by omega, by omega, rfl, rfl, by rw [HX.out], by omega, HR⟩
  case round =>
    obtain ⟨k, x, hk4, hk, rfl, rfl, rfl, hx, HX⟩ := hrel
    clear HR
    by_cases hlt : k < r.length
    · have hcl := HC.out k hlt
      have hyb : r[k].toNat < 256 := r[k].toNat_lt
      have hdrop := List.drop_eq_getElem_cons hlt
      have hOO := HX.out
      rw [hdrop] at hOO
      have HO := Lib.hid hOO
      clear hOO hdrop HC HX
      have O1 := Lib.hid (@getFrom_over k x r[k] (r.drop (k + 1)))
      have O2 := Lib.hid (@getFrom_zero k x r[k] (r.drop (k + 1)))
      have O3 := Lib.hid (@getFrom_done k x r[k] (r.drop (k + 1)))
      have O4 := Lib.hid (@getFrom_next k x r[k] (r.drop (k + 1)))
      generalize getFrom k x (r[k] :: r.drop (k + 1)) = G at *
      generalize r[k].toNat = v at *
      rcases (by omega : k = 0 ∨ k = 1 ∨ k = 2 ∨ k = 3 ∨ k = 4) with rfl | rfl | rfl | rfl | rfl
      · simp only [Nat.reducePow, Nat.mul_one, Nat.reduceAdd, Nat.pow_zero] at *
        by_cases c1 : 2147483647 < x + v % 128
        · have e := (O1.out (.inl c1)).symm.trans HO.out
          simp only [Prod.mk.injEq] at e
          obtain ⟨rfl, rfl, rfl⟩ := e
          have c1' : (2147483647 : Int) < (x : Int) + (v : Int) % 128 := by omega
          clear O1 O2 O3 O4 HO
          go_wp2
          go_ret3
          exact ⟨rfl, rfl⟩
        have c1' : ¬ (2147483647 : Int) < (x : Int) + (v : Int) % 128 := by omega
        have hno : ¬ (2147483647 < x + v % 128 ∨ ((0 : Nat) = 4 ∧ 128 ≤ v)) := by omega
        by_cases c5 : v < 128
        · have e := (O3.out hno (by omega) c5).symm.trans HO.out
          simp only [Prod.mk.injEq] at e
          obtain ⟨rfl, rfl, rfl⟩ := e
          clear O1 O2 O3 O4 HO hno
          go_wp2
          go_ret3
          refine ⟨?_, rfl⟩
          simp
        have e := (O4.out hno (by omega) c5).symm.trans HO.out
        have HE := Lib.hid e
        clear O1 O2 O3 O4 HO hno e
        go_wp2
        go_round
        case rel => exact ⟨1, x + v % 128, by omega, by omega, by go_num, by go_num, by go_num, by omega, HE.out⟩
        case measure => simp [intOf]; omega
      · simp only [Nat.reducePow, Nat.mul_one, Nat.reduceAdd, Nat.pow_zero] at *
        by_cases c1 : 2147483647 < x + v % 128 * 128
        · have e := (O1.out (.inl c1)).symm.trans HO.out
          simp only [Prod.mk.injEq] at e
          obtain ⟨rfl, rfl, rfl⟩ := e
          have c1' : (2147483647 : Int) < (x : Int) + (v : Int) % 128 * 128 := by omega
          clear O1 O2 O3 O4 HO
          go_wp2
          go_ret3
          exact ⟨rfl, rfl⟩
        have c1' : ¬ (2147483647 : Int) < (x : Int) + (v : Int) % 128 * 128 := by omega
        have hno : ¬ (2147483647 < x + v % 128 * 128 ∨ ((1 : Nat) = 4 ∧ 128 ≤ v)) := by omega
        by_cases c4 : v = 0
        · have e := (O2.out hno ⟨by omega, c4⟩).symm.trans HO.out
          simp only [Prod.mk.injEq] at e
          obtain ⟨rfl, rfl, rfl⟩ := e
          subst c4
          simp only [Int.natCast_zero] at hcl
          clear O1 O2 O3 O4 HO hno c1 c1'
          go_wp2
          go_ret3
          exact ⟨rfl, rfl⟩
        have c4' : ((v : Int) == 0) = false := by simp; omega
        by_cases c5 : v < 128
        · have e := (O3.out hno (by omega) c5).symm.trans HO.out
          simp only [Prod.mk.injEq] at e
          obtain ⟨rfl, rfl, rfl⟩ := e
          clear O1 O2 O3 O4 HO hno
          go_wp2
          go_ret3
          refine ⟨?_, rfl⟩
          simp
        have e := (O4.out hno (by omega) c5).symm.trans HO.out
        have HE := Lib.hid e
        clear O1 O2 O3 O4 HO hno e
        go_wp2
        go_round
        case rel => exact ⟨2, x + v % 128 * 128, by omega, by omega, by go_num, by go_num, by go_num, by omega, HE.out⟩
        case measure => simp [intOf]; omega
      · simp only [Nat.reducePow, Nat.mul_one, Nat.reduceAdd, Nat.pow_zero] at *
        by_cases c1 : 2147483647 < x + v % 128 * 16384
        · have e := (O1.out (.inl c1)).symm.trans HO.out
          simp only [Prod.mk.injEq] at e
          obtain ⟨rfl, rfl, rfl⟩ := e
          have c1' : (2147483647 : Int) < (x : Int) + (v : Int) % 128 * 16384 := by omega
          clear O1 O2 O3 O4 HO
          go_wp2
          go_ret3
          exact ⟨rfl, rfl⟩
        have c1' : ¬ (2147483647 : Int) < (x : Int) + (v : Int) % 128 * 16384 := by omega
        have hno : ¬ (2147483647 < x + v % 128 * 16384 ∨ ((2 : Nat) = 4 ∧ 128 ≤ v)) := by omega
        by_cases c4 : v = 0
        · have e := (O2.out hno ⟨by omega, c4⟩).symm.trans HO.out
          simp only [Prod.mk.injEq] at e
          obtain ⟨rfl, rfl, rfl⟩ := e
          subst c4
          simp only [Int.natCast_zero] at hcl
          clear O1 O2 O3 O4 HO hno c1 c1'
          go_wp2
          go_ret3
          exact ⟨rfl, rfl⟩
        have c4' : ((v : Int) == 0) = false := by simp; omega
        by_cases c5 : v < 128
        · have e := (O3.out hno (by omega) c5).symm.trans HO.out
          simp only [Prod.mk.injEq] at e
          obtain ⟨rfl, rfl, rfl⟩ := e
          clear O1 O2 O3 O4 HO hno
          go_wp2
          go_ret3
          refine ⟨?_, rfl⟩
          simp
        have e := (O4.out hno (by omega) c5).symm.trans HO.out
        have HE := Lib.hid e
        clear O1 O2 O3 O4 HO hno e
        go_wp2
        go_round
        case rel => exact ⟨3, x + v % 128 * 16384, by omega, by omega, by go_num, by go_num, by go_num, by omega, HE.out⟩
        case measure => simp [intOf]; omega
      · simp only [Nat.reducePow, Nat.mul_one, Nat.reduceAdd, Nat.pow_zero] at *
        by_cases c1 : 2147483647 < x + v % 128 * 2097152
        · have e := (O1.out (.inl c1)).symm.trans HO.out
          simp only [Prod.mk.injEq] at e
          obtain ⟨rfl, rfl, rfl⟩ := e
          have c1' : (2147483647 : Int) < (x : Int) + (v : Int) % 128 * 2097152 := by omega
          clear O1 O2 O3 O4 HO
          go_wp2
          go_ret3
          exact ⟨rfl, rfl⟩
        have c1' : ¬ (2147483647 : Int) < (x : Int) + (v : Int) % 128 * 2097152 := by omega
        have hno : ¬ (2147483647 < x + v % 128 * 2097152 ∨ ((3 : Nat) = 4 ∧ 128 ≤ v)) := by omega
        by_cases c4 : v = 0
        · have e := (O2.out hno ⟨by omega, c4⟩).symm.trans HO.out
          simp only [Prod.mk.injEq] at e
          obtain ⟨rfl, rfl, rfl⟩ := e
          subst c4
          simp only [Int.natCast_zero] at hcl
          clear O1 O2 O3 O4 HO hno c1 c1'
          go_wp2
          go_ret3
          exact ⟨rfl, rfl⟩
        have c4' : ((v : Int) == 0) = false := by simp; omega
        by_cases c5 : v < 128
        · have e := (O3.out hno (by omega) c5).symm.trans HO.out
          simp only [Prod.mk.injEq] at e
          obtain ⟨rfl, rfl, rfl⟩ := e
          clear O1 O2 O3 O4 HO hno
          go_wp2
          go_ret3
          refine ⟨?_, rfl⟩
          simp
        have e := (O4.out hno (by omega) c5).symm.trans HO.out
        have HE := Lib.hid e
        clear O1 O2 O3 O4 HO hno e
        go_wp2
        go_round
        case rel => exact ⟨4, x + v % 128 * 2097152, by omega, by omega, by go_num, by go_num, by go_num, by omega, HE.out⟩
        case measure => simp [intOf]; omega
      · simp only [Nat.reducePow, Nat.mul_one, Nat.reduceAdd, Nat.pow_zero] at *
        by_cases c1 : 2147483647 < x + v % 128 * 268435456
        · have e := (O1.out (.inl c1)).symm.trans HO.out
          simp only [Prod.mk.injEq] at e
          obtain ⟨rfl, rfl, rfl⟩ := e
          have c1' : (2147483647 : Int) < (x : Int) + (v : Int) % 128 * 268435456 := by omega
          clear O1 O2 O3 O4 HO
          go_wp2
          go_ret3
          exact ⟨rfl, rfl⟩
        have c1' : ¬ (2147483647 : Int) < (x : Int) + (v : Int) % 128 * 268435456 := by omega
        by_cases c2 : 128 ≤ v
        · have e := (O1.out (.inr ⟨trivial, c2⟩)).symm.trans HO.out
          simp only [Prod.mk.injEq] at e
          obtain ⟨rfl, rfl, rfl⟩ := e
          clear O1 O2 O3 O4 HO
          go_wp2
          go_ret3
          exact ⟨rfl, rfl⟩
        have hno : ¬ (2147483647 < x + v % 128 * 268435456 ∨ (True ∧ 128 ≤ v)) := by omega
        by_cases c4 : v = 0
        · have e := (O2.out hno ⟨by omega, c4⟩).symm.trans HO.out
          simp only [Prod.mk.injEq] at e
          obtain ⟨rfl, rfl, rfl⟩ := e
          subst c4
          simp only [Int.natCast_zero] at hcl
          clear O1 O2 O3 O4 HO hno c1 c1'
          go_wp2
          go_ret3
          exact ⟨rfl, rfl⟩
        have c4' : ((v : Int) == 0) = false := by simp; omega
        by_cases c5 : v < 128
        · have e := (O3.out hno (by omega) c5).symm.trans HO.out
          simp only [Prod.mk.injEq] at e
          obtain ⟨rfl, rfl, rfl⟩ := e
          clear O1 O2 O3 O4 HO hno
          go_wp2
          go_ret3
          refine ⟨?_, rfl⟩
          simp
        omega
    · have hkr : k = r.length := by omega
      subst hkr
      have e := HX.out
      rw [List.drop_length] at e
      simp only [getFrom, Prod.mk.injEq] at e
      obtain ⟨rfl, rfl, rfl⟩ := e
      clear HX HC
      go_wp2
      go_ret3
      exact ⟨rfl, rfl⟩

theorem rget_any (l : List UInt8) (s : Int) (A : Option Addr) (n c : Nat) (hn : n = l.length) (hm : l.length ≤ 140737488355328) (B : Nat) (w : World) (hr : Reads w B 1 A l.length (bs l)) :
    Calls Tryd.prog 20 #[.slice A n c, .int .i64 s] w fun e w' => e = .returned (.tuple #[.int .i64 (getV l s).1, .int .i64 (getV l s).2.1, .int .i64 ((getV l s).2.2 : Nat)]) ∧ w = w' := by
  subst hn
  by_cases h1 : s < 1 ∨ 8 < s
  · have e1 : getV l s = (0, 0, 1) := by simp [getV, h1]
    rw [e1]
    clear e1 hr
    rcases h1 with h1 | h1
    all_goals
      go_enter Tryd.func20, Tryd.ntmps20
      go_wp2
      go_ret3
      exact ⟨rfl, rfl⟩
  obtain ⟨t, rfl⟩ := Int.eq_ofNat_of_zero_le (show 0 ≤ s by omega)
  match l, hm, hr with
  | [], hm, hr =>
    have e1 : getV [] (t : Int) = (0, 0, 8) := by simp [getV, h1]
    rw [e1]
    simp only [List.length_nil]
    clear e1 hr
    go_enter Tryd.func20, Tryd.ntmps20
    go_wp2
    go_ret3
    exact ⟨rfl, rfl⟩
  | c0 :: r, hm, hr =>
    simp only [List.length_cons] at hm hr
    by_cases hlt : c0.toNat % 2 ^ t < 2 ^ t - 1
    · have e1 : getV (c0 :: r) (t : Int) = (c0.toNat % 2 ^ t, 1, 0) := by simp [getV, h1, hlt]
      rw [e1]
      exact rget_one r c0 t (by omega) (by omega) A _ c rfl B w hr hlt
    · have e1 : getV (c0 :: r) (t : Int) = getFrom 0 (c0.toNat % 2 ^ t) r := by simp [getV, h1, hlt]
      rw [e1]
      exact rget_more r c0 t (by omega) (by omega) A _ c rfl (by omega) B w hr hlt _ _ _ rfl
end Go.Proofs.YtkbbkamnmdeagaaDoor
