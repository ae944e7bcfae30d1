/-
  Frames as bytes: the contracts of frame.Encode, of the reference's Frame, of slices.Clone. Condition: the bound on the body's length.
-/
import Derived.Test.YtkbbkamnmdeagaaDoorMHeadPlays23
import Derived.Test.YtkbbkamnmdeagaaDoorMHeadPlays17
import Derived.Test.YtkbbkamnmdeagaaDoorMHeadPlays07
import Derived.Lib.SliceRun
namespace Go.Proofs.YtkbbkamnmdeagaaDoor
open Go.RowKit

/-- A frame as a value, its body at an address. -/
def frV (f : Frm) (A : Option Addr) (c : Nat) : Value := .agg #[.int .i64 f.K, .int .i64 f.F, .int .i64 f.S, .slice A f.body.length c]

set_option maxHeartbeats 1000000 in
theorem octet_any (n : Int) (w : World) :
    Calls Tryd.prog 76 #[.int .i64 n] w fun e w' => e = .returned (.bool (decide (0 ≤ n ∧ n ≤ 255))) ∧ w = w' := by
  by_cases h0 : 0 ≤ n
  · by_cases h : n ≤ 255
    · have e : decide (0 ≤ n ∧ n ≤ 255) = true := by simp [h0, h]
      rw [e]
      clear e
      go_enter Tryd.func76, Tryd.ntmps76
      go_wp2
      go_ret
      exact ⟨by simp [h], rfl⟩
    · have e : decide (0 ≤ n ∧ n ≤ 255) = false := by simp [h]
      rw [e]
      clear e
      have h2 : decide (n ≤ 255) = false := by simp [h]
      go_enter Tryd.func76, Tryd.ntmps76
      go_wp2
      go_ret
      exact ⟨by simp [h], rfl⟩
  · have e : decide (0 ≤ n ∧ n ≤ 255) = false := by simp [h0]
    rw [e]
    clear e
    go_enter Tryd.func76, Tryd.ntmps76
    go_wp2
    go_ret
    exact ⟨rfl, rfl⟩

set_option maxRecDepth 100000 in
theorem clone_nil (w : World) (c : Nat) (hc : c = 0) :
    Calls Tryd.prog 78 #[.slice none 0 c] w fun e w' => e = .returned (.slice none 0 0) ∧ w = w' := by
  subst hc
  have q := Lib.run_eql_slice_nil (P := Tryd.prog) w 22 5 none 0 0 0 0 Tryd.underlying22
  go_enter Tryd.func78, Tryd.ntmps78
  go_wp2
  go_ret
  exact ⟨rfl, rfl⟩
set_option maxRecDepth 100000 in
set_option maxHeartbeats 1000000 in
theorem clone_some (a : Addr) (l : List UInt8) (n c : Nat) (hn : n = l.length) (hm : l.length ≤ 140737488355328) (w : World) (hr : Reads w w.heap.size 1 (some a) l.length (bs l)) :
    Calls Tryd.prog 78 #[.slice (some a) n c] w fun e w' => ∃ v, e = .returned v ∧ w'.ownsRow w.heap.size 5 1 v l.length (bs l) ∧ Below w.heap.size w w' := by
  subst hn
  have ho := own_new w #[] 5 [] 0 rfl rfl (by decide)
  have hb := (Below.refl w.heap.size w).alloc (Nat.le_refl _) (.cells #[] 5)
  have HR := Lib.hid (hr.below hb)
  have HO := Lib.hid ho
  have HB := Lib.hid hb
  clear hr ho hb
  have q := Lib.run_eql_slice_nil (P := Tryd.prog) w 22 5 (some a) l.length c 0 0 Tryd.underlying22
  go_enter Tryd.func78, Tryd.ntmps78
  go_wp2_with (at_builtin; refine wpList_join rfl _ _ rfl w.heap.size _ _ _ rfl HO.out _ _ _ _ (bs l) rfl HR.out (bs_one l) (by omega) (by simp) ?_; intro v w2 hown2 hb2)
  go_ret
  rw [Nat.zero_add, List.nil_append] at hown2
  exact ⟨_, rfl, hown2, HB.out.trans hb2⟩
/-- A clone, whatever it is of: bytes of its own. -/
theorem clone_any (A : Option Addr) (l : List UInt8) (n c : Nat) (hn : n = l.length) (hc : A = none → c = 0) (hm : l.length ≤ 140737488355328) (w : World) (hr : Reads w w.heap.size 1 A l.length (bs l)) :
    Calls Tryd.prog 78 #[.slice A n c] w fun e w' => ∃ A' c', e = .returned (.slice A' l.length c') ∧ w'.ownsRow w.heap.size 5 1 (.slice A' l.length c') l.length (bs l) ∧ Below w.heap.size w w' := by
  cases A with
  | none =>
    have h0 : l.length = 0 := by
      rcases Nat.eq_zero_or_pos l.length with h | h
      · exact h
      · obtain ⟨ad, e, _⟩ := hr.2 h
        cases e
    have hl : l = [] := List.eq_nil_of_length_eq_zero h0
    subst hl
    subst hn
    refine (clone_nil w c (hc rfl)).mono ?_
    rintro e w' ⟨rfl, rfl⟩
    exact ⟨none, 0, rfl, World.ownsRow_nil _ _ _ _, Below.refl _ _⟩
  | some a =>
    refine (clone_some a l n c hn hm w hr).mono ?_
    rintro e w' ⟨v, rfl, hown, hb⟩
    obtain ⟨A', c', rfl, hg⟩ := gave_of_own hown hb
    exact ⟨A', c', rfl, hown, hb⟩

theorem byte_of {x : Int} (h0 : 0 ≤ x) (h : x ≤ 255) : bs [UInt8.ofNat x.toNat] = [.int .u8 x] := by
  simp only [bs, List.map_cons, List.map_nil, UInt8.toNat_ofNat']
  have : ((x.toNat % 2 ^ 8 : Nat) : Int) = x := by omega
  rw [this]
theorem frame_bad_vals (f : Frm) (h : frmE f = 1) : frmL f = [] := by rw [frmL, if_neg (by omega)]
theorem wrap_u8 {x : Int} (h0 : 0 ≤ x) (h : x ≤ 255) : IntKind.u8.wrap x = x := by
  have : x % 256 = x := Int.emod_eq_of_lt h0 (by omega)
  simp [IntKind.wrap, IntKind.bits, IntKind.signed]
  omega


theorem frm_bad {f : Frm} (h : ¬ frmOk f) : frmE f = 1 := by rw [frmE, if_neg h]
theorem frm_big {f : Frm} (h : frmOk f) (h2 : 1024 < f.body.length) : frmE f = 4 := by rw [frmE, if_pos h, if_pos h2]
theorem frm_fine {f : Frm} (h : frmOk f) (h2 : ¬ 1024 < f.body.length) : frmE f = 0 := by rw [frmE, if_pos h, if_neg h2]
theorem frmL_no {f : Frm} (h : frmE f ≠ 0) : frmL f = [] := by rw [frmL, if_neg h]
/-- The parts that Concat is handed. -/
def frParts (f : Frm) (A1 : Option Addr) (c1 : Nat) (x : Nat) (A2 : Option Addr) (c2 : Nat) (A : Option Addr) (c : Nat) : List Part :=
  [⟨A1, 3, c1, bs (beBytes 3 f.body.length)⟩, ⟨some ⟨x, 0, none⟩, 2, 2, [.int .u8 f.K, .int .u8 f.F]⟩, ⟨A2, 4, c2, bs (beBytes 4 f.S.toNat)⟩, ⟨A, f.body.length, c, bs f.body⟩]
theorem frParts_flat {f : Frm} (h : frmE f = 0) (A1 : Option Addr) (c1 : Nat) (x : Nat) (A2 : Option Addr) (c2 : Nat) (A : Option Addr) (c : Nat) :
    total (frParts f A1 c1 x A2 c2 A c) = (frmL f).length ∧ flat (frParts f A1 c1 x A2 c2 A c) = bs (frmL f) := by
  obtain ⟨⟨k0, k1, f0, f1, _⟩, _⟩ := frmE_zero h
  rw [frmL_length h, frmL_is h]
  constructor
  · simp [total, frParts]
    omega
  · have e1 := byte_of k0 k1
    have e2 := byte_of f0 f1
    simp only [flat, frParts, List.flatMap_cons, List.flatMap_nil, List.append_nil]
    unfold frmH
    rw [bs_append, bs_append, bs_append, List.append_assoc, List.append_assoc]
    rw [show bs [UInt8.ofNat f.K.toNat, UInt8.ofNat f.F.toNat] = [.int .u8 f.K, .int .u8 f.F] by
      have : bs [UInt8.ofNat f.K.toNat, UInt8.ofNat f.F.toNat] = bs [UInt8.ofNat f.K.toNat] ++ bs [UInt8.ofNat f.F.toNat] := rfl
      rw [this, e1, e2]
      rfl]
theorem u8_one (l : List Value) (h : ∀ u ∈ l, ∃ x : Int, u = .int .u8 x) : ∀ u ∈ l, u.oneCell' = true := fun u hu => by
  obtain ⟨x, rfl⟩ := h u hu
  rfl

set_option maxRecDepth 100000 in
set_option maxHeartbeats 4000000 in
theorem fenc_bad (f : Frm) (A : Option Addr) (c : Nat) (hE : frmE f ≠ 0) (hm : f.body.length ≤ 140737488355328) (w : World) :
    Calls Tryd.prog 29 #[frV f A c] w fun e w' => ∃ A' c', e = .returned (.tuple #[.slice A' (frmL f).length c', errV (frmE f)]) ∧ Gave w w' (frmL f) A' c' := by
  rw [frmL_no hE]
  have hb0 := (Below.refl w.heap.size w).alloc (Nat.le_refl _) (.cells #[.int .i64 f.K, .int .i64 f.F, .int .i64 f.S, .slice A f.body.length c] 50)
  have hB0 : Blk (w.alloc (.cells #[.int .i64 f.K, .int .i64 f.F, .int .i64 f.S, .slice A f.body.length c] 50)) w.heap.size 50 #[.int .i64 f.K, .int .i64 f.F, .int .i64 f.S, .slice A f.body.length c] := Blk.new w _ _
  have HB0 := Lib.hid hB0
  have HBB := Lib.hid hb0
  obtain ⟨h1, h2, h3⟩ | ⟨h1, h2, h3⟩ | ⟨h1, h2, h3⟩ | ⟨h1, h2, h3, h4⟩ :
      (¬ (0 ≤ f.K ∧ f.K ≤ 255) ∧ frmE f = 1 ∧ True) ∨ ((0 ≤ f.K ∧ f.K ≤ 255) ∧ ¬ (0 ≤ f.F ∧ f.F ≤ 255) ∧ frmE f = 1) ∨
      ((0 ≤ f.K ∧ f.K ≤ 255) ∧ (0 ≤ f.F ∧ f.F ≤ 255) ∧ bigE f.S 4 = 1 ∧ frmE f = 1) ∨ ((0 ≤ f.K ∧ f.K ≤ 255) ∧ (0 ≤ f.F ∧ f.F ≤ 255) ∧ (bigE f.S 4 = 0 ∧ 1024 < f.body.length) ∧ frmE f = 4) := by
    by_cases hK : 0 ≤ f.K ∧ f.K ≤ 255
    · by_cases hF : 0 ≤ f.F ∧ f.F ≤ 255
      · by_cases hS : bigOk f.S 4
        · have hok : frmOk f := ⟨hK.1, hK.2, hF.1, hF.2, hS.2.2.1, by simpa [most] using hS.2.2.2⟩
          have h10 : 1024 < f.body.length := by
            rcases Nat.lt_or_ge 1024 f.body.length with h | h
            · exact h
            · exact absurd (frm_fine hok (by omega)) hE
          exact .inr (.inr (.inr ⟨hK, hF, ⟨by rw [bigE, if_pos hS], h10⟩, frm_big hok h10⟩))
        · exact .inr (.inr (.inl ⟨hK, hF, by rw [bigE, if_neg hS], frm_bad fun h => hS ⟨by omega, by omega, h.2.2.2.2.1, by simpa [most] using h.2.2.2.2.2⟩⟩))
      · exact .inr (.inl ⟨hK, hF, frm_bad fun h => hF ⟨h.2.2.1, h.2.2.2.1⟩⟩)
    · exact .inl ⟨hK, frm_bad fun h => hK ⟨h.1, h.2.1⟩, trivial⟩
  · rw [h2, errV_pos (by decide)]
    have hk : decide (0 ≤ f.K ∧ f.K ≤ 255) = false := decide_eq_false h1
    clear hB0 hb0 hE h1 h2
    go_enter Tryd.func29, Tryd.ntmps29
    unfold frV
    go_wp2_with fail
    refine (wbig_any f.S 4 _).mono ?_
    rintro e w1 ⟨A1, c1, rfl, hg1⟩
    have hblk := HB0.out.below hg1.2.2 HB0.out.lt
    have q0 := hblk.cell 0
    have HG := Lib.hid (HBB.out.trans (hg1.2.2.mono HBB.out.size))
    clear hg1 hblk
    go_wp2_with (go_at_call 76; refine (octet_any _ _).mono ?_; rintro e w' ⟨rfl, rfl⟩)
    go_ret2
    exact ⟨none, 0, rfl, Nat.le_refl _, Reads.none_, HG.out⟩
  · rw [h3, errV_pos (by decide)]
    have hk : decide (0 ≤ f.K ∧ f.K ≤ 255) = true := decide_eq_true h1
    have hf : decide (0 ≤ f.F ∧ f.F ≤ 255) = false := decide_eq_false h2
    clear hB0 hb0 hE h1 h2
    go_enter Tryd.func29, Tryd.ntmps29
    unfold frV
    go_wp2_with fail
    refine (wbig_any f.S 4 _).mono ?_
    rintro e w1 ⟨A1, c1, rfl, hg1⟩
    have hblk := HB0.out.below hg1.2.2 HB0.out.lt
    have q0 := hblk.cell 0
    have q1 := hblk.cell 1
    have HG := Lib.hid (HBB.out.trans (hg1.2.2.mono HBB.out.size))
    clear hg1 hblk
    go_wp2_with (go_at_call 76; refine (octet_any _ _).mono ?_; rintro e w' ⟨rfl, rfl⟩)
    go_ret2
    exact ⟨none, 0, rfl, Nat.le_refl _, Reads.none_, HG.out⟩
  · rw [h3.2, errV_pos (by decide)]
    have hk : decide (0 ≤ f.K ∧ f.K ≤ 255) = true := decide_eq_true h1
    have hf : decide (0 ≤ f.F ∧ f.F ≤ 255) = true := decide_eq_true h2
    have HE := Lib.hid (show errV (bigE f.S 4) = .iface 113 (.int .i64 ((1 : Nat) : Int)) by rw [h3.1, errV_pos (by decide)])
    clear hB0 hb0 hE h1 h2
    go_enter Tryd.func29, Tryd.ntmps29
    unfold frV
    go_wp2_with fail
    refine (wbig_any f.S 4 _).mono ?_
    rintro e w1 ⟨A1, c1, rfl, hg1⟩
    rw [HE.out]
    have hblk := HB0.out.below hg1.2.2 HB0.out.lt
    have q0 := hblk.cell 0
    have q1 := hblk.cell 1
    have HG := Lib.hid (HBB.out.trans (hg1.2.2.mono HBB.out.size))
    clear hg1 hblk
    go_wp2_with (go_at_call 76; refine (octet_any _ _).mono ?_; rintro e w' ⟨rfl, rfl⟩)
    go_ret2
    exact ⟨none, 0, rfl, Nat.le_refl _, Reads.none_, HG.out⟩
  · rw [h4, errV_pos (by decide)]
    have hk : decide (0 ≤ f.K ∧ f.K ≤ 255) = true := decide_eq_true h1
    have hf : decide (0 ≤ f.F ∧ f.F ≤ 255) = true := decide_eq_true h2
    have HE := Lib.hid (show errV (bigE f.S 4) = .nilIface by rw [h3.1, errV_zero])
    have h10 := h3.2
    clear hB0 hb0 hE h1 h2
    go_enter Tryd.func29, Tryd.ntmps29
    unfold frV
    go_wp2_with fail
    refine (wbig_any f.S 4 _).mono ?_
    rintro e w1 ⟨A1, c1, rfl, hg1⟩
    rw [HE.out]
    have hblk := HB0.out.below hg1.2.2 HB0.out.lt
    have q0 := hblk.cell 0
    have q1 := hblk.cell 1
    have q3 := hblk.cell 3
    have HG := Lib.hid (HBB.out.trans (hg1.2.2.mono HBB.out.size))
    clear hg1 hblk
    go_wp2_with (go_at_call 76; refine (octet_any _ _).mono ?_; rintro e w' ⟨rfl, rfl⟩)
    go_ret2
    exact ⟨none, 0, rfl, Nat.le_refl _, Reads.none_, HG.out⟩

theorem frParts_at {W : World} {f : Frm} {A1 : Option Addr} {c1 x : Nat} {A2 : Option Addr} {c2 : Nat} {A : Option Addr} {c pb : Nat}
    (hp : Blk W pb 22 #[.slice A1 3 c1, .slice (some ⟨x, 0, none⟩) 2 2, .slice A2 4 c2, .slice A f.body.length c]) (h1 : Reads W W.heap.size 1 A1 3 (bs (beBytes 3 f.body.length)))
    (h2 : Blk W x 5 #[.int .u8 f.K, .int .u8 f.F]) (h3 : Reads W W.heap.size 1 A2 4 (bs (beBytes 4 f.S.toNat))) (h4 : Reads W W.heap.size 1 A f.body.length (bs f.body)) :
    PartsAt W 1 pb (frParts f A1 c1 x A2 c2 A c) := by
  intro k hk
  rcases k with _ | _ | _ | _ | k
  · exact ⟨hp.cell 0, h1, bs_one _⟩
  · refine ⟨hp.cell 1, ⟨rfl, fun _ => ⟨_, rfl, h2.lt, fun j u hu => ?_⟩⟩, ?_⟩
    · rw [Addr.add_lit]
      rcases j with _ | _ | j
      · rw [← hu]; exact h2.cell 0
      · rw [← hu]; exact h2.cell 1
      · simp [frParts] at hu
    · intro u hu
      simp [frParts] at hu
      rcases hu with rfl | rfl <;> rfl
  · exact ⟨hp.cell 2, h3, bs_one _⟩
  · exact ⟨hp.cell 3, h4, bs_one _⟩
  · exfalso
    simp [frParts] at hk
    omega

theorem own_down {w : World} {B B' size n : Nat} {e : TypeId} {v : Value} {xs : List Value} (h : w.ownsRow B e size v n xs) (hB : B' ≤ B) : w.ownsRow B' e size v n xs := by
  refine ⟨h.1, ?_⟩
  rcases h.2 with h0 | ⟨g, cap, cur, rfl, hb, hr⟩
  · exact .inl h0
  · exact .inr ⟨g, cap, cur, rfl, Nat.le_trans hB hb, hr⟩

set_option maxRecDepth 100000 in
set_option maxHeartbeats 4000000 in
theorem fenc_own (f : Frm) (A : Option Addr) (c : Nat) (hE : frmE f = 0) (w : World) (hr : Reads w w.heap.size 1 A f.body.length (bs f.body)) :
    Calls Tryd.prog 29 #[frV f A c] w fun e w' => ∃ A' c', e = .returned (.tuple #[.slice A' (frmL f).length c', errV (frmE f)]) ∧ Gave w w' (frmL f) A' c' ∧ w'.ownsRow w.heap.size 5 1 (.slice A' (frmL f).length c') (frmL f).length (bs (frmL f)) := by
  obtain ⟨⟨k0, k1, f0, f1, s0, s1⟩, hm⟩ := frmE_zero hE
  have hb0 := (Below.refl w.heap.size w).alloc (Nat.le_refl _) (.cells #[.int .i64 f.K, .int .i64 f.F, .int .i64 f.S, .slice A f.body.length c] 50)
  have hB0 : Blk (w.alloc (.cells #[.int .i64 f.K, .int .i64 f.F, .int .i64 f.S, .slice A f.body.length c] 50)) w.heap.size 50 #[.int .i64 f.K, .int .i64 f.F, .int .i64 f.S, .slice A f.body.length c] := Blk.new w _ _
  have HB0 := Lib.hid hB0
  have HBB := Lib.hid hb0
  have HR := Lib.hid hr
  have hb1 : bigOk f.S 4 := ⟨by omega, by omega, s0, by simpa [most] using s1⟩
  have hb2 : bigOk (f.body.length : Nat) 3 := ⟨by omega, by omega, by omega, by simp [most]; omega⟩
  have e1 : bigL f.S 4 = beBytes 4 f.S.toNat := by rw [bigL, if_pos hb1]; rfl
  have e2 : bigL (f.body.length : Nat) 3 = beBytes 3 f.body.length := by rw [bigL, if_pos hb2]; rfl
  have HE1 := Lib.hid (show errV (bigE f.S 4) = .nilIface by rw [bigE, if_pos hb1, errV_zero])
  have HE2 := Lib.hid (show errV (bigE (f.body.length : Nat) 3) = .nilIface by rw [bigE, if_pos hb2, errV_zero])
  have hk : decide (0 ≤ f.K ∧ f.K ≤ 255) = true := decide_eq_true ⟨k0, k1⟩
  have hf : decide (0 ≤ f.F ∧ f.F ≤ 255) = true := decide_eq_true ⟨f0, f1⟩
  have hkw := wrap_u8 k0 k1
  have hfw := wrap_u8 f0 f1
  have l4 : (beBytes 4 f.S.toNat).length = 4 := beBytes_length _ _
  have l3 : (beBytes 3 f.body.length).length = 3 := beBytes_length _ _
  rw [hE, errV_zero]
  have HE := Lib.hid hE
  have h10 : ¬ 1024 < f.body.length := by omega
  clear hB0 hb0 hr hE hb1 hb2
  go_enter Tryd.func29, Tryd.ntmps29
  unfold frV
  go_wp2_with fail
  refine (wbig_any f.S 4 _).mono ?_
  rintro e w1 ⟨A1, c1, rfl, hg1⟩
  rw [HE1.out]
  rw [e1] at hg1 ⊢
  rw [l4]
  have hblk := HB0.out.below hg1.2.2 HB0.out.lt
  have q0 := hblk.cell 0
  have q1 := hblk.cell 1
  have q3 := hblk.cell 3
  have HG := Lib.hid hg1
  have HK := Lib.hid hblk
  clear hg1 hblk
  go_wp2_with (go_at_call 76; refine (octet_any _ _).mono ?_; rintro e w' ⟨rfl, rfl⟩)
  refine (wbig_any (f.body.length : Nat) 3 _).mono ?_
  rintro e w2 ⟨A2, c2, rfl, hg2⟩
  rw [HE2.out]
  rw [e2] at hg2 ⊢
  rw [l3]
  have hblk := HK.out.below hg2.2.2 HK.out.lt
  have q0 := hblk.cell 0
  have q1 := hblk.cell 1
  have q3 := hblk.cell 3
  have HG2 := Lib.hid hg2
  have HK2 := Lib.hid hblk
  have hlt2 := hblk.lt
  clear hg2 hblk
  go_wp2_with fail
  have hB2 := (Below.refl w2.heap.size w2).alloc (Nat.le_refl _) (.cells #[.int .u8 f.K, .int .u8 f.F] 5)
  have hB3 := hB2.alloc hB2.size (.cells #[.slice A2 3 c2, .slice (some ⟨w2.heap.size, 0, none⟩) 2 2, .slice A1 4 c1, .slice A f.body.length c] 22)
  have hps := frParts_at (f := f) (A1 := A2) (c1 := c2) (x := w2.heap.size) (A2 := A1) (c2 := c1) (A := A) (c := c) (pb := w2.heap.size + 1)
    (W := (w2.alloc (.cells #[.int .u8 f.K, .int .u8 f.F] 5)).alloc (.cells #[.slice A2 3 c2, .slice (some ⟨w2.heap.size, 0, none⟩) 2 2, .slice A1 4 c1, .slice A f.body.length c] 22))
    (by have := Blk.new (w2.alloc (.cells #[.int .u8 f.K, .int .u8 f.F] 5)) 22 #[.slice A2 3 c2, .slice (some ⟨w2.heap.size, 0, none⟩) 2 2, .slice A1 4 c1, .slice A f.body.length c]; rwa [World.size_alloc] at this)
    (by have := HG2.out.2.1; rw [l3] at this; exact (this.below hB3).more hB3.size) ((Blk.new w2 5 _).alloc _)
    (by have := HG.out.2.1; rw [l4] at this; exact ((this.below HG2.out.2.2).more HG2.out.2.2.size).below hB3 |>.more hB3.size)
    (((((HR.out.below HBB.out).more HBB.out.size).below HG.out.2.2).more HG.out.2.2.size |>.below HG2.out.2.2 |>.more HG2.out.2.2.size).below hB3 |>.more hB3.size)
  have hfl := frParts_flat HE.out A2 c2 w2.heap.size A1 c1 A c
  have hfl2 := frmL_length HE.out
  refine (concatB_any _ _ _ hps (by rw [hfl.1]; omega) (by simp [frParts])).mono ?_
  rintro e w3 ⟨v, rfl, hown, hb3⟩
  rw [hfl.1, hfl.2] at hown
  obtain ⟨A', c', rfl, hg⟩ := gave_of_own hown hb3
  have hs1 := HG.out.2.2.size
  have hs2 := HG2.out.2.2.size
  have hs0 := HBB.out.size
  have HOWN := Lib.hid (own_down hown (B' := w.heap.size) (by simp; omega))
  have HGG := Lib.hid hg
  have HBE := Lib.hid (((HBB.out.trans (HG.out.2.2.mono HBB.out.size)).trans (HG2.out.2.2.mono (Nat.le_trans HBB.out.size HG.out.2.2.size))).trans (hB3.mono (Nat.le_trans HBB.out.size (Nat.le_trans HG.out.2.2.size HG2.out.2.2.size))))
  clear hps hfl hfl2 hg hown hb3 hB2 hB3 hs0 hs1 hs2
  go_wp2
  go_ret2
  exact ⟨A', c', rfl, ⟨HGG.out.1, HGG.out.2.1, HBE.out.trans (HGG.out.2.2.mono HBE.out.size)⟩, HOWN.out⟩
theorem fenc_fine (f : Frm) (A : Option Addr) (c : Nat) (hE : frmE f = 0) (w : World) (hr : Reads w w.heap.size 1 A f.body.length (bs f.body)) :
    Calls Tryd.prog 29 #[frV f A c] w fun e w' => ∃ A' c', e = .returned (.tuple #[.slice A' (frmL f).length c', errV (frmE f)]) ∧ Gave w w' (frmL f) A' c' := by
  refine (fenc_own f A c hE w hr).mono ?_
  rintro e w' ⟨A', c', h1, h2, _⟩
  exact ⟨A', c', h1, h2⟩
theorem fenc_any (f : Frm) (A : Option Addr) (c : Nat) (hm : f.body.length ≤ 140737488355328) (w : World) (hr : Reads w w.heap.size 1 A f.body.length (bs f.body)) :
    Calls Tryd.prog 29 #[frV f A c] w fun e w' => ∃ A' c', e = .returned (.tuple #[.slice A' (frmL f).length c', errV (frmE f)]) ∧ Gave w w' (frmL f) A' c' := by
  by_cases hE : frmE f = 0
  · exact fenc_fine f A c hE w hr
  · exact fenc_bad f A c hE hm w
end Go.Proofs.YtkbbkamnmdeagaaDoor
