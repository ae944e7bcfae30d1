/-
  Frames as bytes: the contract of the reference's Frame. Condition: the bound on the body's length.
-/
import Derived.Test.YtkbbkamnmdeagaaDoorFrmE
namespace Go.Proofs.YtkbbkamnmdeagaaDoor
open Go.RowKit

set_option maxRecDepth 100000 in
set_option maxHeartbeats 4000000 in
theorem rfenc_bad (f : Frm) (A : Option Addr) (c : Nat) (hE : frmE f ≠ 0) (hm : f.body.length ≤ 140737488355328) (w : World) :
    Calls Tryd.prog 28 #[frV f A c] w fun e w' => ∃ A' c', e = .returned (.tuple #[.slice A' (frmL f).length c', .int .i64 (frmE f : Nat)]) ∧ Gave w w' (frmL f) A' c' := by
  rw [frmL_no hE]
  have hb0 := (Below.refl w.heap.size w).alloc (Nat.le_refl _) (.cells #[.int .i64 f.K, .int .i64 f.F, .int .i64 f.S, .slice A f.body.length c] 50)
  have HBB := Lib.hid hb0
  clear hb0
  by_cases hok : frmOk f
  · have h10 : 1024 < f.body.length := by
      rcases Nat.lt_or_ge 1024 f.body.length with h | h
      · exact h
      · exact absurd (frm_fine hok (by omega)) hE
    rw [frm_big hok h10]
    obtain ⟨k0, k1, f0, f1, s0, s1⟩ := hok
    clear hE
    go_enter Tryd.func28, Tryd.ntmps28
    unfold frV
    go_wp2
    go_ret2
    exact ⟨none, 0, rfl, Nat.le_refl _, Reads.none_, HBB.out⟩
  · rw [frm_bad hok]
    have hr : f.K < 0 ∨ 255 < f.K ∨ f.F < 0 ∨ 255 < f.F ∨ f.S < 0 ∨ 2147483647 < f.S := by
      unfold frmOk at hok
      omega
    clear hok hE
    go_enter Tryd.func28, Tryd.ntmps28
    unfold frV
    by_cases h1 : f.K < 0
    · go_wp2
      go_ret2
      exact ⟨none, 0, rfl, Nat.le_refl _, Reads.none_, HBB.out⟩
    by_cases h2 : 255 < f.K
    · go_wp2
      go_ret2
      exact ⟨none, 0, rfl, Nat.le_refl _, Reads.none_, HBB.out⟩
    by_cases h3 : f.F < 0
    · go_wp2
      go_ret2
      exact ⟨none, 0, rfl, Nat.le_refl _, Reads.none_, HBB.out⟩
    by_cases h4 : 255 < f.F
    · go_wp2
      go_ret2
      exact ⟨none, 0, rfl, Nat.le_refl _, Reads.none_, HBB.out⟩
    by_cases h5 : f.S < 0
    · go_wp2
      go_ret2
      exact ⟨none, 0, rfl, Nat.le_refl _, Reads.none_, HBB.out⟩
    · have h6 : 2147483647 < f.S := by omega
      go_wp2
      go_ret2
      exact ⟨none, 0, rfl, Nat.le_refl _, Reads.none_, HBB.out⟩

theorem own_onw {w w' : World} {base : Nat} {e : TypeId} {size n : Nat} {v : Value} {xs : List Value} (h : w.ownsRow base e size v n xs) (hb : Below w.heap.size w w') : w'.ownsRow base e size v n xs := by
  obtain ⟨h1, h2⟩ := h
  refine ⟨h1, ?_⟩
  rcases h2 with h2 | ⟨g, cap, cur, hv, hg, hh, r⟩
  · exact .inl h2
  · refine .inr ⟨g, cap, cur, hv, hg, ?_, r⟩
    rw [hb.block g (Blk.lt (t := e) (cs := cur) hh)]
    exact hh
theorem own_mono1 {w : World} {B B' n : Nat} {v : Value} {xs : List Value} (h : w.ownsRow B 5 1 v n xs) (hB : B' ≤ B) : w.ownsRow B' 5 1 v n xs := by
  refine ⟨h.1, ?_⟩
  rcases h.2 with h0 | ⟨g, cap, cur, hv, hg, hr⟩
  · exact .inl h0
  · exact .inr ⟨g, cap, cur, hv, Nat.le_trans hB hg, hr⟩
theorem own_as {w : World} {B n m : Nat} {v : Value} {xs ys : List Value} (h : w.ownsRow B 5 1 v n xs) (hn : n = m) (hx : xs = ys) : w.ownsRow B 5 1 v m ys := by
  subst hn
  subst hx
  exact h
theorem frmL_bytes {f : Frm} (h : frmE f = 0) : bs (beBytes 3 f.body.length) ++ [.int .u8 f.K] ++ [.int .u8 f.F] ++ bs (beBytes 4 f.S.toNat) ++ bs f.body = bs (frmL f) := by
  obtain ⟨⟨k0, k1, f0, f1, _⟩, _⟩ := frmE_zero h
  have e1 := byte_of k0 k1
  have e2 := byte_of f0 f1
  rw [frmL_is h]
  unfold frmH
  rw [bs_append, bs_append, bs_append, ← e1, ← e2]
  rw [show bs [UInt8.ofNat f.K.toNat, UInt8.ofNat f.F.toNat] = bs [UInt8.ofNat f.K.toNat] ++ bs [UInt8.ofNat f.F.toNat] from rfl]
  simp only [List.append_assoc]

set_option maxRecDepth 100000 in
set_option maxHeartbeats 4000000 in
theorem rfenc_fine (f : Frm) (A : Option Addr) (c : Nat) (hE : frmE f = 0) (w : World) (hr : Reads w w.heap.size 1 A f.body.length (bs f.body)) :
    Calls Tryd.prog 28 #[frV f A c] w fun e w' => ∃ A' c', e = .returned (.tuple #[.slice A' (frmL f).length c', .int .i64 (frmE f : Nat)]) ∧ Gave w w' (frmL f) A' c' := by
  obtain ⟨⟨k0, k1, f0, f1, s0, s1⟩, hm⟩ := frmE_zero hE
  have hb0 := (Below.refl w.heap.size w).alloc (Nat.le_refl _) (.cells #[.int .i64 f.K, .int .i64 f.F, .int .i64 f.S, .slice A f.body.length c] 50)
  have hB0 : Blk (w.alloc (.cells #[.int .i64 f.K, .int .i64 f.F, .int .i64 f.S, .slice A f.body.length c] 50)) w.heap.size 50 #[.int .i64 f.K, .int .i64 f.F, .int .i64 f.S, .slice A f.body.length c] := Blk.new w _ _
  have HB0 := Lib.hid hB0
  have HBB := Lib.hid hb0
  have HR := Lib.hid hr
  have hkw := wrap_u8 k0 k1
  have hfw := wrap_u8 f0 f1
  have HFL := Lib.hid (frmL_bytes hE)
  have HLN := Lib.hid (frmL_length hE)
  have h10 : ¬ 1024 < f.body.length := by omega
  have m3 : ((f.body.length : Nat) : Int) ≤ ((most 3 : Nat) : Int) := by simp [most]; omega
  have m4 : f.S ≤ ((most 4 : Nat) : Int) := by simpa [most] using s1
  have hbk : bigOk f.S 4 := ⟨by omega, by omega, s0, m4⟩
  have e1 : bigL f.S 4 = beBytes 4 f.S.toNat := by rw [bigL, if_pos hbk]; rfl
  have HE1 := Lib.hid (show bigE f.S 4 = 0 by rw [bigE, if_pos hbk])
  have l4 : (beBytes 4 f.S.toNat).length = 4 := beBytes_length _ _
  have HS3 := Lib.hid m3
  rw [hE]
  clear hB0 hb0 hr hE m3 m4 hbk
  go_enter Tryd.func28, Tryd.ntmps28
  unfold frV
  go_wp2_with fail
  refine (rbig_ok (f.body.length : Nat) 3 (by omega) (by omega) (by omega) HS3.out _).mono ?_
  rintro e w1 ⟨v1, rfl, hown1, hb1⟩
  have hblk := HB0.out.below hb1 HB0.out.lt
  have q0 := hblk.cell 0
  have q1 := hblk.cell 1
  have q2 := hblk.cell 2
  have q3 := hblk.cell 3
  have HK1 := Lib.hid hblk
  have hlt1 := hblk.lt
  have HO1 := Lib.hid hown1
  have HB1 := Lib.hid hb1
  clear hblk hown1 hb1
  have hs0 : w.heap.size + 1 ≤ w1.heap.size := by have := HB1.out.size; rwa [World.size_alloc] at this
  have HO1 := Lib.hid (own_mono1 HO1.out (show w.heap.size + 1 ≤ _ by rw [World.size_alloc]; exact Nat.le_refl _))
  go_wp2_with (first
    | (at_builtin; refine wpList_push rfl _ _ rfl (w.heap.size + 1) _ 3 (bs (beBytes 3 f.body.length)) rfl HO1.out rfl rfl (by omega) hs0 ?_; intro v2 w2 hown2 hb2; have hs2 := hb2.size; have HK2 := Lib.hid (HK1.out.below hb2 (by omega)); have q0 := HK2.out.cell 0; have q1 := HK2.out.cell 1; have q2 := HK2.out.cell 2; have q3 := HK2.out.cell 3; clear HK1)
    | (at_builtin; refine wpList_push rfl _ _ rfl (w.heap.size + 1) _ 4 (bs (beBytes 3 f.body.length) ++ [.int .u8 f.K]) rfl ?_ rfl rfl ?_ ?_ ?_; (exact hown2); (omega); (omega); intro v3 w3 hown3 hb3; have hs3 := hb3.size; have HK3 := Lib.hid (HK2.out.below hb3 (Nat.lt_succ_self _)); have q0 := HK3.out.cell 0; have q1 := HK3.out.cell 1; have q2 := HK3.out.cell 2; have q3 := HK3.out.cell 3; clear HK2))
  refine (rbig_any f.S 4 _).mono ?_
  rintro e w4 ⟨A4, c4, rfl, hg4⟩
  rw [e1] at hg4 ⊢
  rw [l4, HE1.out]
  have hblk4 := HK3.out.below hg4.2.2 HK3.out.lt
  have q3 := hblk4.cell 3
  have hlt4 := hblk4.lt
  have HO4 := Lib.hid (own_onw hown3 hg4.2.2)
  have hr4 := hg4.2.1
  rw [l4] at hr4
  have HR4 := Lib.hid hr4
  have hs4 := hg4.2.2.size
  have hb14 : Below (w.heap.size + 1) w1 w4 := (hb2.trans hb3).trans (hg4.2.2.mono (by omega))
  have hb01 : Below (w.heap.size + 1) (w.alloc (.cells #[.int .i64 f.K, .int .i64 f.F, .int .i64 f.S, .slice A f.body.length c] 50)) w1 := by
    have := HB1.out
    rwa [World.size_alloc] at this
  have hb04 := hb01.trans hb14
  have hrb : Reads w4 w.heap.size 1 A f.body.length (bs f.body) := (HR.out.below HBB.out).below (hb04.mono (Nat.le_succ _))
  have HRB := Lib.hid hrb
  have HK4 := Lib.hid hblk4
  have HB04 := Lib.hid hb04
  clear hg4 hblk4 hr4 hb14 hb01 hb04 hrb q0 q1 q2 HK3 hb2 hb3 hown2 hown3 HB1 HR HO1
  go_wp2_with (first
    | (at_builtin; refine wpList_join rfl _ _ rfl (w.heap.size + 1) _ 5 _ rfl HO4.out _ A4 4 c4 _ rfl HR4.out (bs_one _) ?_ ?_ ?_; (omega); (omega); intro v5 w5 hown5 hb5; have hs5 := hb5.size; have HK5 := Lib.hid (HK4.out.below hb5 (Nat.lt_succ_self _)); have q3 := HK5.out.cell 3; have HR5 := Lib.hid (HRB.out.below (hb5.mono (Nat.le_succ _))))
    | (at_builtin; refine wpList_join rfl _ _ rfl (w.heap.size + 1) _ _ _ rfl hown5 _ A f.body.length c _ rfl HR5.out (bs_one _) ?_ ?_ ?_; (omega); (omega); intro v6 w6 hown6 hb6))
  have hfin := own_as (m := (frmL f).length) (own_mono1 hown6 (Nat.le_succ _)) (by rw [HLN.out]) HFL.out
  have hbf := (((HB04.out.trans hb5).trans hb6).mono (Nat.le_succ _))
  obtain ⟨A', c', rfl, hg⟩ := gave_of_own hfin (HBB.out.trans hbf)
  go_ret2
  exact ⟨A', c', rfl, hg⟩
theorem rfenc_any (f : Frm) (A : Option Addr) (c : Nat) (hm : f.body.length ≤ 140737488355328) (w : World) (hr : Reads w w.heap.size 1 A f.body.length (bs f.body)) :
    Calls Tryd.prog 28 #[frV f A c] w fun e w' => ∃ A' c', e = .returned (.tuple #[.slice A' (frmL f).length c', .int .i64 (frmE f : Nat)]) ∧ Gave w w' (frmL f) A' c' := by
  by_cases hE : frmE f = 0
  · exact rfenc_fine f A c hE w hr
  · exact rfenc_bad f A c hE hm w
end Go.Proofs.YtkbbkamnmdeagaaDoor
