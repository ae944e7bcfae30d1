/-
  A coder that hears: Decode, where something is wrong; where it is bad. Condition: the bound on the bytes; the bytes lie below the coder's own blocks.
  The program's coder and the reference's in one world, while both say: the words of the law HeadPlays. Condition: the fields' texts' lengths.
  Plain law: frames as bytes, and back. Nothing of the program.
  slices.Concat at []uint8, whatever slices it is handed; slices.Grow of nil. Condition: the bound on the bytes.
-/
import Derived.Test.YtkbbkamnmdeagaaDoorHdecF
import Derived.Test.YtkbbkamnmdeagaaDoorDHenc
import Derived.Test.YtkbbkamnmdeagaaDoorRC2
import Derived.Test.YtkbbkamnmdeagaaDoorMHeadPlays01
import Derived.Test.YtkbbkamnmdeagaaDoorMHeadPlays10
import Derived.Lib.AppendZeros
namespace Go.Proofs.YtkbbkamnmdeagaaDoor
open Go.RowKit
attribute [local go_sem ↓] Go.wp_at_zero Go.wp_at_succ

set_option maxRecDepth 100000 in
set_option maxHeartbeats 2000000 in
theorem cdecode_fault {w : World} {C h : Nat} {A : Option Addr} {c : Nat} {ys : List Fld} {my most : Nat} (H : CIn w C h A c ys my most false) (hmost : most ≤ 4096) (b : List UInt8) (LA : Option Addr) (n lc : Nat) (hn : n = b.length) (hcap : b.length ≤ lc) (hm : b.length ≤ 140737488355328) (B : Nat) (hB : B < w.heap.size) (hBl : ¬ iOwn C h A B) (hr : Reads w w.heap.size 1 LA b.length (bs b)) (hLA : ∀ ad, LA = some ad → ad.block = B)
    (E : Nat) (hE : E ≠ 0) (hH : (heard most ys my [] b).e = E) :
    Calls Tryd.prog 65 #[.pointer (some ⟨C, 0, none⟩), .slice LA n lc] w fun e w' => e = .returned (.tuple #[.slice none 0 0, .iface 113 (.int .i64 ((E : Nat) : Int))]) ∧ InBad w w' C h A true := by
  subst hn
  have hcd := cdec_fault H hmost b LA _ lc rfl hcap hm B hB hBl hr hLA E hE hH
  obtain ⟨⟨g, Sv, hb⟩, ht⟩ := H
  have c4 := hb.cell 4
  have HCD := Lib.hid hcd
  have HC := Lib.hid hb.lt
  clear hb ht hr hH hcd hBl hLA hE
  go_enter Tryd.func65, Tryd.ntmps65
  go_wp2_with fail
  refine HCD.out.mono ?_
  rintro e w1 ⟨rfl, ⟨g2, p2, mo2, Sv2, hb2⟩, hkp⟩
  have c4 := hb2.cell 4
  have f4 := hb2.frozen 4
  have hl4 := hb2.lt
  have k3 : Keep (fun k => k = C) w1 (w1.setCell ⟨C, 4, none⟩ (.bool true)) := (Keep.refl (fun k => k = C) w1).setCell (p := ⟨C, 4, none⟩) (.inl rfl) _
  have hb3 := hb2.set_ 4 (.bool true)
  have HD := Lib.hid (show InBad w (w1.setCell ⟨C, 4, none⟩ (.bool true)) C h A true from ⟨⟨g2, p2, mo2, Sv2, by simpa using hb3⟩, hkp.trans k3 fun i hi => .inl (.inl hi)⟩)
  clear hb2 k3 hb3 hkp
  go_wp2
  go_ret2
  exact ⟨rfl, HD.out⟩
set_option maxRecDepth 100000 in
set_option maxHeartbeats 1000000 in
theorem cdecode_bad {w : World} {C : Nat} {g p mo Sv : Value} (hb : Blk w C 134 #[g, p, mo, Sv, .bool true]) (LA : Option Addr) (n lc : Nat) :
    Calls Tryd.prog 65 #[.pointer (some ⟨C, 0, none⟩), .slice LA n lc] w fun e w' => e = .returned (.tuple #[.slice none 0 0, .iface 113 (.int .i64 6)]) ∧ w = w' := by
  have c4 := hb.cell 4
  have hl := hb.lt
  clear hb
  go_enter Tryd.func65, Tryd.ntmps65
  go_wp2
  go_ret2
  exact ⟨rfl, rfl⟩
end Go.Proofs.YtkbbkamnmdeagaaDoor
namespace Go.Proofs.YtkbbkamnmdeagaaDoor
open Go.RowKit
attribute [local go_sem ↓] Go.wp_at_zero Go.wp_at_succ

abbrev hpq (h max : Nat) : Value × Value × Value := (.pointer (some ⟨h, 0, none⟩), .int .i64 ((max : Nat) : Int), .bool false)
/-- While both say. -/
structure HP (w0 w : World) (C g h M max : Nat) (A : Option Addr) (c : Nat) (Sv : Value) (xs : List Fld) (mx : Nat) (ps : List Nat) (RA : Option Addr) (rc : Nat) (RSv : Value) (ys : List Fld) (my : Nat) (qs : List Nat) : Prop where
  o : DOut w C g A c Sv xs mx ps (hpq h max)
  i : Tab w h none 0 [] max
  r : ROut w M RA rc RSv ys my qs max
  so : ps = [] → Sv = .slice none 0 0
  sr : qs = [] → RSv = .slice none 0 0
  po : ∀ p ∈ ps, p ≤ 4096
  pr : ∀ p ∈ qs, p ≤ 4096
  ob : ∀ k, oOwn C g A Sv k → w0.heap.size ≤ k
  rb : ∀ k, rOwn M RSv k → w0.heap.size ≤ k
  hb : w0.heap.size ≤ h
  ho : ¬ oOwn C g A Sv h
  hr : ¬ rOwn M RSv h
  dj : ∀ k, rOwn M RSv k → ¬ oOwn C g A Sv k
  da : ∀ a, RA = some a → ¬ oOwn C g A Sv a.block
  bw : Below w0.heap.size w0 w
theorem itab_keep {S : Nat → Prop} {w w' : World} {h max : Nat} (H : Tab w h none 0 [] max) (hk : Keep S w w') (hh : ¬ S h) : Tab w' h none 0 [] max := H.keep hk fun k hk => by
  rcases hk with rfl | ⟨a, ha, _⟩
  · exact hh
  · cases ha
section
variable {w0 w w1 w2 w' : World} {C g h M max c mx rc my : Nat} {A RA : Option Addr} {Sv RSv : Value} {xs ys : List Fld} {ps qs : List Nat}
theorem HP.next (H : HP w0 w C g h M max A c Sv xs mx ps RA rc RSv ys my qs) (hb : Below w.heap.size w w') : HP w0 w' C g h M max A c Sv xs mx ps RA rc RSv ys my qs :=
  ⟨H.o.below hb, itab_keep H.i (Keep.of_below (S := fun _ => False) hb) (fun h => h), H.r.below hb, H.so, H.sr, H.po, H.pr, H.ob, H.rb, H.hb, H.ho, H.hr, H.dj, H.da, H.bw.trans (hb.mono H.bw.size)⟩
theorem hp_new (hm : max ≤ 4096) (h1 : DOut w1 C g none 0 (.slice none 0 0) [] max [] (hpq h max)) (ht : Tab w1 h none 0 [] max) (hb1 : Below w.heap.size w w1) (hC : w.heap.size ≤ C) (hg : w.heap.size ≤ g) (hh : w.heap.size ≤ h) (hne : h ≠ g) (hnC : h ≠ C)
    (hr : ROut w2 w1.heap.size none 0 (.slice none 0 0) [] max [] max) (hb2 : Below w1.heap.size w1 w2) :
    HP w w2 C g h w1.heap.size max none 0 (.slice none 0 0) [] max [] none 0 (.slice none 0 0) [] max [] := by
  have hlt := h1.lt
  have hhl := ht.lt h (.inl rfl)
  have hsz := hb1.size
  refine ⟨h1.below hb2, itab_keep ht (Keep.of_below (S := fun _ => False) hb2) (fun h => h), hr, fun _ => rfl, fun _ => rfl, by simp, by simp, ?_, ?_, hh, ?_, ?_, ?_, (fun a e => by cases e), hb1.trans (hb2.mono hb1.size)⟩
  · rintro k (rfl | (rfl | ⟨a, ha, _⟩) | hk)
    · exact hC
    · exact hg
    · cases ha
    · simp [Value.ownBlock] at hk
  · rintro k (rfl | hk)
    · exact hsz
    · simp [Value.ownBlock] at hk
  · rintro (e | (e | ⟨a, ha, _⟩) | hk)
    · exact hnC e
    · exact hne e
    · cases ha
    · simp [Value.ownBlock] at hk
  · rintro (e | hk)
    · omega
    · simp [Value.ownBlock] at hk
  · rintro k (rfl | hk) ho
    · have := hlt _ ho
      omega
    · simp [Value.ownBlock] at hk
/-- The program's side has gone on. -/
theorem HP.ours (H : HP w0 w C g h M max A c Sv xs mx ps RA rc RSv ys my qs) {A2 : Option Addr} {c2 mx2 : Nat} {Sv2 : Value} {xs2 : List Fld} {ps2 : List Nat} (ho : DOut w' C g A2 c2 Sv2 xs2 mx2 ps2 (hpq h max)) (hk : Keep (oOwn C g A Sv) w w') (hf : ∀ k, oOwn C g A2 Sv2 k → oOwn C g A Sv k ∨ w.heap.size ≤ k) (hs : ps2 = [] → Sv2 = .slice none 0 0) (hp : ∀ p ∈ ps2, p ≤ 4096) :
    HP w0 w' C g h M max A2 c2 Sv2 xs2 mx2 ps2 RA rc RSv ys my qs := by
  have hrl := H.r.lt
  have hil := H.i.lt h (.inl rfl)
  refine ⟨ho, itab_keep H.i hk H.ho, H.r.keep hk (fun k h => H.dj k h) (fun a ha => H.da a ha), hs, H.sr, hp, H.pr, fun k hk => ?_, H.rb, H.hb, fun e => ?_, H.hr, fun k hr ho => ?_, fun a ha ho => ?_, H.bw.trans (hk.below H.bw.size H.ob)⟩
  · rcases hf k hk with e | e
    · exact H.ob k e
    · exact Nat.le_trans H.bw.size e
  · rcases hf _ e with e | e
    · exact H.ho e
    · omega
  · have := hrl k hr
    rcases hf _ ho with e | e
    · exact H.dj k hr e
    · omega
  · have := (H.r.da a ha).2
    rcases hf _ ho with e | e
    · exact H.da a ha e
    · omega
/-- The reference's side has gone on. -/
theorem HP.theirs (H : HP w0 w C g h M max A c Sv xs mx ps RA rc RSv ys my qs) {RA2 : Option Addr} {rc2 my2 : Nat} {RSv2 : Value} {ys2 : List Fld} {qs2 : List Nat} (ho : ROut w' M RA2 rc2 RSv2 ys2 my2 qs2 max) (hk : Keep (rOwn M RSv) w w') (hf : ∀ k, rOwn M RSv2 k → rOwn M RSv k ∨ w.heap.size ≤ k) (hA : ∀ a, RA2 = some a → (∃ a0, RA = some a0 ∧ a0.block = a.block) ∨ w.heap.size ≤ a.block) (hs : qs2 = [] → RSv2 = .slice none 0 0) (hp : ∀ p ∈ qs2, p ≤ 4096) :
    HP w0 w' C g h M max A c Sv xs mx ps RA2 rc2 RSv2 ys2 my2 qs2 := by
  have hol := H.o.lt
  have hil := H.i.lt h (.inl rfl)
  refine ⟨H.o.keep hk (fun k ho hr => H.dj k hr ho), itab_keep H.i hk H.hr, ho, H.so, hs, H.po, hp, H.ob, fun k hk => ?_, H.hb, H.ho, fun e => ?_, fun k hr ho => ?_, fun a ha ho => ?_, H.bw.trans (hk.below H.bw.size H.rb)⟩
  · rcases hf k hk with e | e
    · exact H.rb k e
    · exact Nat.le_trans H.bw.size e
  · rcases hf _ e with e | e
    · exact H.hr e
    · omega
  · have := hol k ho
    rcases hf _ hr with e | e
    · exact H.dj k e ho
    · omega
  · have := hol _ ho
    rcases hA a ha with ⟨a0, e, e2⟩ | e
    · exact H.da a0 e (e2 ▸ ho)
    · omega
end

set_option maxRecDepth 100000 in
set_option maxHeartbeats 2000000 in
/-- A size that no table takes. -/
theorem dres_no {w : World} {C g : Nat} {q1 q2 q3 q4 : Value} (hb : Blk w C 134 #[.pointer (some ⟨g, 0, none⟩), q1, q2, q3, q4]) (z : Int) (hz : z < 0 ∨ 4096 < z) :
    Calls Tryd.prog 60 #[.pointer (some ⟨C, 0, none⟩), .int .i64 z] w fun e w' => e = .returned (.iface 113 (.int .i64 1)) ∧ w = w' := by
  have c0 := hb.cell 0
  have hlt := hb.lt
  have HZ := Lib.hid hz
  clear hb hz
  go_enter Tryd.func60, Tryd.ntmps60
  go_wp2_with fail
  refine (resize_no g z HZ.out).mono ?_
  rintro e w1 ⟨rfl, rfl⟩
  go_wp2
  go_ret
  exact ⟨rfl, rfl⟩

section
variable {w0 w w1 w2 w' : World} {C g h M max c mx rc my : Nat} {A RA : Option Addr} {Sv RSv : Value} {xs ys : List Fld} {ps qs : List Nat}
theorem hp_resno (H : HP w0 w C g h M max A c Sv xs mx ps RA rc RSv ys my qs) (z : Int) (hz : z < 0 ∨ 4096 < z) :
    Calls Tryd.prog 60 #[.pointer (some ⟨C, 0, none⟩), .int .i64 z] w fun e w' => e = .returned (.iface 113 (.int .i64 1)) ∧ w = w' := dres_no H.o.blk z hz
theorem hp_rres (H : HP w0 w C g h M max A c Sv xs mx ps RA rc RSv ys my qs) (p : Nat) (hp : p ≤ 4096) (hl : qs.length ≤ 1000000) :
    Calls Tryd.prog 59 #[.pointer (some ⟨M, 0, none⟩), .int .i64 (p : Int)] w fun e w' => e = .returned (.tuple #[]) ∧ ∃ RSv2, HP w0 w' C g h M max A c Sv xs mx ps RA rc RSv2 (shr p ys) p (qs ++ [p]) := by
  refine (rresC_any H.r p hp hl).mono ?_
  rintro e w' ⟨he, RSv2, h1, h2, h3⟩
  refine ⟨he, RSv2, H.theirs h1 h2 h3 (fun a ha => .inl ⟨a, ha, rfl⟩) (fun h => by simp at h) fun q hq => ?_⟩
  rcases List.mem_append.1 hq with h | h
  · exact H.pr q h
  · have : q = p := by simpa using h
    omega
theorem hp_res (H : HP w0 w C g h M max A c Sv xs mx ps RA rc RSv ys my qs) (p : Nat) (hp : p ≤ 4096) (hl : ps.length ≤ 1000000) :
    Calls Tryd.prog 60 #[.pointer (some ⟨C, 0, none⟩), .int .i64 (p : Int)] w fun e w' => e = .returned .nilIface ∧ ∃ A2 c2 Sv2, HP w0 w' C g h M max A2 c2 Sv2 (shr p xs) p (ps ++ [p]) RA rc RSv ys my qs := by
  refine (dresize_yes H.o p hp hl).mono ?_
  rintro e w' ⟨he, A2, c2, Sv2, h1, h2, h3⟩
  refine ⟨he, A2, c2, Sv2, H.ours h1 h2 h3 (fun h => by simp at h) fun q hq => ?_⟩
  rcases List.mem_append.1 hq with h | h
  · exact H.po q h
  · have : q = p := by simpa using h
    omega
theorem saidE_len {l : List Fld} (hE : saidE l = 0) : l.length ≤ 40 := by
  unfold saidE at hE
  split at hE
  · cases hE
  · rename_i h
    simp only [Bool.or_eq_true, not_or, Bool.not_eq_true] at h
    exact (fOk_little h.1).2
theorem said_small {mx : Nat} {xs l : List Fld} {ps : List Nat} (hm : mx ≤ 4096) (hw : wt xs ≤ 4096) (hp : ∀ p ∈ ps, p ≤ 4096) (hE : saidE l = 0) : (saidP ps ++ saidL mx xs l).length ≤ 140737488355328 := by
  have e1 := saidL_len mx hm l xs hw
  have e2 := saidP_len ps hp
  have e3 := saidE_len hE
  rw [List.length_append]
  omega
/-- The reference says. -/
theorem hp_rsaid (H : HP w0 w C g h M max A c Sv xs mx ps RA rc RSv ys my qs) (l : List Fld) (hf : ∀ f ∈ l, fOk f) (hm : l.length ≤ 140737488355328) (hpl : qs.length ≤ 1000000) (hE : saidE l = 0) (LA : Option Addr) (n lc : Nat) (hn : n = l.length) (hr : Reads w w0.heap.size 2 LA l.length (fvs l)) :
    Calls Tryd.prog 61 #[.pointer (some ⟨M, 0, none⟩), .slice LA n lc] w fun e w' => ∃ b A' n' c' RA2 rc2, e = .returned (.tuple #[.slice A' n' c', .int .i64 0]) ∧ b = saidP qs ++ saidL my ys l ∧ n' = b.length ∧ n' ≤ c' ∧ b.length ≤ 140737488355328 ∧ Reads w' w'.heap.size 1 A' n' (bs b) ∧ (∀ ad, A' = some ad → ¬ oOwn C g A Sv ad.block) ∧
      HP w0 w' C g h M max A c Sv xs mx ps RA2 rc2 (.slice none 0 0) (nextL my ys l) my [] := by
  have hol := H.o.lt
  refine (rencC_fine H.r H.pr H.sr hpl l hf hm hE LA n lc hn (hr.more H.bw.size) (fun ad e h0 ho => ?_)).mono ?_
  · obtain ⟨ad', e', hb', _⟩ := hr.2 h0
    rw [e] at e'
    cases e'
    have := H.rb _ ho
    omega
  · rintro e w' ⟨A', n', c', rfl, hn', hc', hrd, hfr, RA2, rc2, h1, h2, h3⟩
    refine ⟨_, A', n', c', RA2, rc2, rfl, rfl, hn', hc', said_small H.r.tab.mx H.r.tab.wt H.pr hE, hrd, fun ad e ho => ?_, H.theirs h1 h2 (fun k hk => ?_) h3 (fun _ => rfl) (by simp)⟩
    · have e1 := (hfr ad e).1
      have e2 := hol _ ho
      omega
    · rcases hk with rfl | hk
      · exact .inl (.inl rfl)
      · simp [Value.ownBlock] at hk
/-- The program says. -/
theorem hp_said (H : HP w0 w C g h M max A c Sv xs mx ps RA rc RSv ys my qs) (l : List Fld) (hf : ∀ f ∈ l, fOk f) (hm : l.length ≤ 140737488355328) (hpl : ps.length ≤ 1000000) (hE : saidE l = 0) (LA : Option Addr) (n lc : Nat) (hn : n = l.length) (hr : Reads w w0.heap.size 2 LA l.length (fvs l))
    {b : List UInt8} {B : Option Addr} {m : Nat} (hb : Reads w w.heap.size 1 B m (bs b)) (hB : ∀ ad, B = some ad → ¬ oOwn C g A Sv ad.block) :
    Calls Tryd.prog 62 #[.pointer (some ⟨C, 0, none⟩), .slice LA n lc] w fun e w' => ∃ A' n' c' A2 c2, e = .returned (.tuple #[.slice A' n' c', .nilIface]) ∧ n' = (saidP ps ++ saidL mx xs l).length ∧ n' ≤ c' ∧ Reads w' w'.heap.size 1 A' n' (bs (saidP ps ++ saidL mx xs l)) ∧ Reads w' w'.heap.size 1 B m (bs b) ∧
      HP w0 w' C g h M max A2 c2 (.slice none 0 0) (nextL mx xs l) mx [] RA rc RSv ys my qs := by
  refine (dcenc_fine H.o H.po H.so hpl l hf hm hE LA n lc hn (hr.more H.bw.size) (fun ad e h0 ho => ?_)).mono ?_
  · obtain ⟨ad', e', hb', _⟩ := hr.2 h0
    rw [e] at e'
    cases e'
    have := H.ob _ ho
    omega
  · rintro e w' ⟨A', n', c', rfl, hn', hc', hrd, hfr, A2, c2, h1, h2, h3⟩
    exact ⟨A', n', c', A2, c2, rfl, hn', hc', hrd, (reads_keep hb h2 (Nat.le_refl _) hB).more h2.size, H.ours h1 h2 h3 (fun _ => rfl) (by simp)⟩
end
end Go.Proofs.YtkbbkamnmdeagaaDoor
namespace Go.Proofs.YtkbbkamnmdeagaaDoor

/-- A frame: its kind, flags, stream, body. -/
structure Frm where
  K : Int
  F : Int
  S : Int
  body : List UInt8
def frmOk (f : Frm) : Prop := 0 ≤ f.K ∧ f.K ≤ 255 ∧ 0 ≤ f.F ∧ f.F ≤ 255 ∧ 0 ≤ f.S ∧ f.S ≤ 2147483647
instance (f : Frm) : Decidable (frmOk f) := by unfold frmOk; infer_instance
/-- Its fault; it as bytes. -/
def frmE (f : Frm) : Nat := if frmOk f then (if 1024 < f.body.length then 4 else 0) else 1
def frmH (f : Frm) : List UInt8 := beBytes 3 f.body.length ++ ([UInt8.ofNat f.K.toNat, UInt8.ofNat f.F.toNat] ++ beBytes 4 f.S.toNat)
def frmL (f : Frm) : List UInt8 := if frmE f = 0 then frmH f ++ f.body else []
def frm0 : Frm := ⟨0, 0, 0, []⟩
/-- The frame that bytes begin with, how many they are; the fault. -/
def frmR (b : List UInt8) : Frm × Nat × Nat :=
  if b.length < 9 then (frm0, 0, 8)
  else if 1024 < beNat (b.take 3) then (frm0, 0, 4)
  else if 2147483647 < beNat ((b.drop 5).take 4) then (frm0, 0, 10)
  else if b.length - 9 < beNat (b.take 3) then (frm0, 0, 8)
  else (⟨((b.getD 3 0).toNat : Nat), ((b.getD 4 0).toNat : Nat), (beNat ((b.drop 5).take 4) : Nat), (b.drop 9).take (beNat (b.take 3))⟩, 9 + beNat (b.take 3), 0)

theorem frmR_short {b : List UInt8} (h : b.length < 9) : frmR b = (frm0, 0, 8) := by rw [frmR, if_pos h]
theorem frmR_full {b : List UInt8} (h : ¬ b.length < 9) (h2 : 1024 < beNat (b.take 3)) : frmR b = (frm0, 0, 4) := by rw [frmR, if_neg h, if_pos h2]
theorem frmR_over {b : List UInt8} (h : ¬ b.length < 9) (h2 : ¬ 1024 < beNat (b.take 3)) (h3 : 2147483647 < beNat ((b.drop 5).take 4)) : frmR b = (frm0, 0, 10) := by rw [frmR, if_neg h, if_neg h2, if_pos h3]
theorem frmR_more {b : List UInt8} (h : ¬ b.length < 9) (h2 : ¬ 1024 < beNat (b.take 3)) (h3 : ¬ 2147483647 < beNat ((b.drop 5).take 4)) (h4 : b.length - 9 < beNat (b.take 3)) : frmR b = (frm0, 0, 8) := by
  rw [frmR, if_neg h, if_neg h2, if_neg h3, if_pos h4]
theorem frmR_all {b : List UInt8} (h : ¬ b.length < 9) (h2 : ¬ 1024 < beNat (b.take 3)) (h3 : ¬ 2147483647 < beNat ((b.drop 5).take 4)) (h4 : ¬ b.length - 9 < beNat (b.take 3)) :
    frmR b = (⟨((b.getD 3 0).toNat : Nat), ((b.getD 4 0).toNat : Nat), (beNat ((b.drop 5).take 4) : Nat), (b.drop 9).take (beNat (b.take 3))⟩, 9 + beNat (b.take 3), 0) := by
  rw [frmR, if_neg h, if_neg h2, if_neg h3, if_neg h4]

theorem frmH_length (f : Frm) : (frmH f).length = 9 := by simp [frmH, beBytes_length]
theorem frmE_zero {f : Frm} (h : frmE f = 0) : frmOk f ∧ f.body.length ≤ 1024 := by
  unfold frmE at h
  split at h
  · split at h
    · omega
    · exact ⟨by assumption, by omega⟩
  · omega
theorem frmL_is {f : Frm} (h : frmE f = 0) : frmL f = frmH f ++ f.body := by rw [frmL, if_pos h]
theorem frmL_length {f : Frm} (h : frmE f = 0) : (frmL f).length = 9 + f.body.length := by rw [frmL_is h, List.length_append, frmH_length]
theorem frmH_take3 (f : Frm) (r : List UInt8) : (frmH f ++ r).take 3 = beBytes 3 f.body.length := by
  unfold frmH
  rw [List.append_assoc, List.take_append_of_le_length (by rw [beBytes_length]; omega), List.take_of_length_le (by rw [beBytes_length]; omega)]
theorem frmH_drop5 (f : Frm) (r : List UInt8) : (frmH f ++ r).drop 5 = beBytes 4 f.S.toNat ++ r := by
  unfold frmH
  have e : beBytes 3 f.body.length = [UInt8.ofNat (f.body.length / 256 ^ 2), UInt8.ofNat (f.body.length / 256 ^ 1), UInt8.ofNat (f.body.length / 256 ^ 0)] := rfl
  rw [e]
  simp
theorem frmH_at (f : Frm) (r : List UInt8) : (frmH f ++ r).getD 3 0 = UInt8.ofNat f.K.toNat ∧ (frmH f ++ r).getD 4 0 = UInt8.ofNat f.F.toNat := by
  unfold frmH
  have e : beBytes 3 f.body.length = [UInt8.ofNat (f.body.length / 256 ^ 2), UInt8.ofNat (f.body.length / 256 ^ 1), UInt8.ofNat (f.body.length / 256 ^ 0)] := rfl
  rw [e]
  simp
theorem frmH_drop9 (f : Frm) (r : List UInt8) : (frmH f ++ r).drop 9 = r := by
  rw [← frmH_length f, List.drop_left]
theorem u8_back {x : Int} (h0 : 0 ≤ x) (h : x ≤ 255) : (((UInt8.ofNat x.toNat).toNat : Nat) : Int) = x := by
  simp only [UInt8.toNat_ofNat']
  omega
theorem beNat3 (n : Nat) (h : n ≤ 1024) : beNat (beBytes 3 n) = n := beNat_bytes 3 n (by omega)
theorem beNat4 (n : Nat) (h : n ≤ 2147483647) : beNat (beBytes 4 n) = n := beNat_bytes 4 n (by omega)
/-- What a head and any bytes are read as. -/
theorem frmR_head {f : Frm} (h : frmE f = 0) (r : List UInt8) : frmR (frmH f ++ r) = if r.length < f.body.length then (frm0, 0, 8) else (⟨f.K, f.F, f.S, r.take f.body.length⟩, 9 + f.body.length, 0) := by
  obtain ⟨⟨h1, h2, h3, h4, h5, h6⟩, hb⟩ := frmE_zero h
  have e1 : beNat ((frmH f ++ r).take 3) = f.body.length := by rw [frmH_take3, beNat3 _ hb]
  have e2 : beNat (((frmH f ++ r).drop 5).take 4) = f.S.toNat := by
    rw [frmH_drop5, List.take_append_of_le_length (by rw [beBytes_length]; omega), List.take_of_length_le (by rw [beBytes_length]; omega), beNat4 _ (by omega)]
  have e3 : (frmH f ++ r).length = 9 + r.length := by rw [List.length_append, frmH_length]
  by_cases hs : r.length < f.body.length
  · rw [if_pos hs, frmR_more (by omega) (by omega) (by omega) (by omega)]
  · rw [if_neg hs, frmR_all (by omega) (by omega) (by omega) (by omega), e1, e2, (frmH_at f r).1, (frmH_at f r).2, frmH_drop9, u8_back h1 h2, u8_back h3 h4]
    have : ((f.S.toNat : Nat) : Int) = f.S := by omega
    rw [this]
/-- What is said is heard as it was, whatever stands behind it. -/
theorem frm_heard {f : Frm} (h : frmE f = 0) (b : List UInt8) : frmR (frmL f ++ b) = (f, (frmL f).length, 0) := by
  rw [frmL_length h, frmL_is h, List.append_assoc, frmR_head h, if_neg (by simp)]
  rw [List.take_append_of_le_length (Nat.le_refl _), List.take_of_length_le (Nat.le_refl _)]
/-- Cut off anywhere it is not whole. -/
theorem frm_cut {f : Frm} (h : frmE f = 0) (i : Nat) (hi : i < (frmL f).length) : frmR ((frmL f).take i) = (frm0, 0, 8) := by
  rw [frmL_length h] at hi
  by_cases h9 : i < 9
  · exact frmR_short (by rw [List.length_take]; omega)
  · obtain ⟨k, rfl⟩ : ∃ k, i = 9 + k := ⟨i - 9, by omega⟩
    rw [frmL_is h, ← frmH_length f, List.take_length_add_append, frmR_head h, if_pos (by rw [List.length_take]; omega)]
theorem nine {b : List UInt8} (h : ¬ b.length < 9) : b = b.take 3 ++ ([b.getD 3 0, b.getD 4 0] ++ ((b.drop 5).take 4 ++ b.drop 9)) := by
  rcases b with _ | ⟨a1, _ | ⟨a2, _ | ⟨a3, _ | ⟨a4, _ | ⟨a5, _ | ⟨a6, _ | ⟨a7, _ | ⟨a8, _ | ⟨a9, r⟩⟩⟩⟩⟩⟩⟩⟩⟩
  all_goals first | (exfalso; simp at h; done) | simp
/-- What any bytes are read as is said as these. -/
theorem frm_back {b : List UInt8} {g : Frm} {n : Nat} (h : frmR b = (g, n, 0)) : frmE g = 0 ∧ frmL g = b.take n ∧ n ≤ b.length := by
  by_cases h1 : b.length < 9
  · rw [frmR_short h1] at h; cases h
  by_cases h2 : 1024 < beNat (b.take 3)
  · rw [frmR_full h1 h2] at h; cases h
  by_cases h3 : 2147483647 < beNat ((b.drop 5).take 4)
  · rw [frmR_over h1 h2 h3] at h; cases h
  by_cases h4 : b.length - 9 < beNat (b.take 3)
  · rw [frmR_more h1 h2 h3 h4] at h; cases h
  rw [frmR_all h1 h2 h3 h4] at h
  simp only [Prod.mk.injEq, and_true] at h
  obtain ⟨rfl, rfl⟩ := h
  have l1 := (b.getD 3 0).toNat_lt
  have l2 := (b.getD 4 0).toNat_lt
  have hl : ((b.drop 9).take (beNat (b.take 3))).length = beNat (b.take 3) := by
    rw [List.length_take, List.length_drop]
    omega
  have hE : frmE ⟨((b.getD 3 0).toNat : Nat), ((b.getD 4 0).toNat : Nat), (beNat ((b.drop 5).take 4) : Nat), (b.drop 9).take (beNat (b.take 3))⟩ = 0 := by
    unfold frmE
    rw [if_pos (by unfold frmOk; simp only; omega), if_neg (by simp only [hl]; exact h2)]
  refine ⟨hE, ?_, by omega⟩
  rw [frmL_is hE]
  unfold frmH
  simp only [hl, Int.toNat_natCast, UInt8.ofNat_toNat]
  have e1 : beBytes 3 (beNat (b.take 3)) = b.take 3 := by
    have := beBytes_nat (b.take 3)
    rwa [List.length_take, Nat.min_eq_left (by omega)] at this
  have e2 : beBytes 4 (beNat ((b.drop 5).take 4)) = (b.drop 5).take 4 := by
    have := beBytes_nat ((b.drop 5).take 4)
    rwa [List.length_take, List.length_drop, Nat.min_eq_left (by omega)] at this
  rw [e1, e2]
  have h9 := nine h1
  generalize hN : beNat (b.take 3) = N at *
  have hT : (b.take 3 ++ ([b.getD 3 0, b.getD 4 0] ++ (b.drop 5).take 4)).length = 9 := by
    simp
    omega
  have e3 : b.take (9 + N) = (b.take 3 ++ ([b.getD 3 0, b.getD 4 0] ++ (b.drop 5).take 4)) ++ (b.drop 9).take N := by
    rw [show b.take (9 + N) = (b.take 3 ++ ([b.getD 3 0, b.getD 4 0] ++ (b.drop 5).take 4) ++ b.drop 9).take (9 + N) by
      congr 1
      rw [List.append_assoc, List.append_assoc]
      exact h9]
    rw [← hT, List.take_length_add_append]
  rw [e3]
theorem frmR_used {b : List UInt8} (h : (frmR b).2.2 = 0) : (frmR b).2.1 ≤ b.length := (frm_back (b := b) (g := (frmR b).1) (n := (frmR b).2.1) (by rw [← h])).2.2
end Go.Proofs.YtkbbkamnmdeagaaDoor
namespace Go.Proofs.YtkbbkamnmdeagaaDoor
open Go.RowKit

set_option maxRecDepth 100000 in
set_option maxHeartbeats 1000000 in
theorem growB_any (n : Nat) (hn : n * 1 ≤ 140737488355328) (w : World) :
    Calls Tryd.prog 97 #[.slice none 0 0, .int .i64 (n : Int)] w fun e w' => ∃ v, e = .returned v ∧ w'.ownsRow w.heap.size 5 1 v 0 [] ∧ Below w.heap.size w w' := by
  rcases Nat.eq_zero_or_pos n with rfl | h0
  · go_enter Tryd.func97, Tryd.ntmps97
    go_wp2
    go_ret
    exact ⟨_, rfl, World.ownsRow_nil _ _ _ _, Below.refl _ _⟩
  · obtain ⟨i0, hi, hz0, hz1, hz2⟩ := info_parts u8_info
    have hneg : ¬ ((n : Int) < 0) := by omega
    have hpos : (0 : Int) < (n : Int) := by omega
    have hG := grownCap_ge w n 0 5
    have hG63 := grownCap_le_maxLen w n 0 5 (by unfold maxLen; omega)
    have hrun := fun ty => Lib.run_append_nil_zeros (P := Tryd.prog) w 22 3 ty 5 i0 (.int .u8 0 : Value) .i64 .i64 Tryd.underlying22 Tryd.underlying3 hi hz0 n h0 (by omega) (by omega) (by rw [hz2]; omega)
    obtain ⟨G, hGe⟩ : ∃ G, grownCap w n 0 5 = G := ⟨_, rfl⟩
    rw [hGe] at hG hG63 hrun
    obtain ⟨CS, hCS⟩ : ∃ CS, Builtin.zeroCells (.int .u8 0 : Value).cells n ++ Builtin.zeroCells (.int .u8 0 : Value).cells (G - n) = CS := ⟨_, rfl⟩
    have hsz : CS.size = G * 1 := by
      rw [← hCS, Array.size_append, zeroCells_size, zeroCells_size]
      have : (.int .u8 0 : Value).cells.size = 1 := by rfl
      rw [this, ← Nat.add_mul]
      congr 1
      omega
    rw [hCS] at hrun
    have HSZ := Lib.hid hsz
    have hGI : (0 : Int) ≤ (G : Int) := by omega
    unfold maxLen at hG63
    clear hi hz0 hz1 hz2 hGe hCS hsz
    go_enter Tryd.func97, Tryd.ntmps97
    go_wp2_with (at_builtin; refine Lib.wpList_append_run _ rfl _ _ _ _ rfl _ _ rfl rfl _ _ (hrun _) ?_)
    go_ret
    refine ⟨_, rfl, ⟨rfl, .inr ⟨w.heap.size, G, CS, rfl, Nat.le_refl _, heap_alloc_new _ _, by omega, by unfold maxLen; omega, HSZ.out, by simp⟩⟩, ((Below.refl _ _).drew).alloc (Nat.le_refl _) _⟩

set_option maxRecDepth 100000 in
set_option maxHeartbeats 4000000 in
theorem concatB_any (ps : List Part) (pb : Nat) (w : World) (hps : PartsAt w 1 pb ps) (hm : total ps * 1 ≤ 140737488355328) (hl : ps.length ≤ 1000000) :
    Calls Tryd.prog 77 #[.slice (some ⟨pb, 0, none⟩) ps.length ps.length] w fun e w' => ∃ v, e = .returned v ∧ w'.ownsRow w.heap.size 5 1 v (total ps) (flat ps) ∧ Below w.heap.size w w' := by
  obtain ⟨i0, hi, hz0, hz1, hz2⟩ := info_parts u8_info
  have HI := Lib.hid hi
  have HZ0 := Lib.hid hz0
  have HZ1 := Lib.hid hz1
  have HZ2 := Lib.hid hz2
  have HP := Lib.hid hps
  clear hi hz0 hz1 hz2 hps
  go_enter Tryd.func77, Tryd.ntmps77
  go_wp2
  go_loop [3, 11] (fun t i => ∃ k : Nat, k ≤ ps.length ∧ i = .int .i64 (k : Int) ∧ t = .int .i64 ((total (ps.take k) : Nat) : Int)) (fun _ i => ps.length - (intOf i).toNat)
  case atStart => exact ⟨0, Nat.zero_le _, rfl, rfl⟩
  case round =>
    obtain ⟨k, hk, rfl, rfl⟩ := hrel
    have hle := total_take_le ps k
    have hb : total (ps.take k) ≤ 140737488355328 := by omega
    by_cases hlt : k < ps.length
    · have hsn := total_take_succ ps k hlt
      have hle2 := total_take_le ps (k + 1)
      obtain ⟨c0, _⟩ := HP.out k hlt
      have HS := Lib.hid hsn
      have hn : ps[k].n ≤ 140737488355328 := by omega
      clear hsn
      generalize ps[k].n = n at *
      generalize ps[k].A = A at *
      generalize ps[k].c = c at *
      go_wp2
      go_round
      case rel => exact ⟨k + 1, by omega, by go_num, by rw [HS.out]; go_num⟩
      case measure => simp [intOf]; omega
    · have hke : ps.take k = ps := List.take_of_length_le (by omega)
      rw [hke]
      clear hke
      go_wp2_with (go_at_call 97; refine (growB_any _ (by omega) _).mono ?_; rintro e w1 ⟨v, rfl, hown, hb1⟩)
      go_loopw [6, 27] (fun v i wr => ∃ k : Nat, k ≤ ps.length ∧ i = .int .i64 (k : Int) ∧ Hid (wr.ownsRow w.heap.size 5 1 v (total (ps.take k)) (flat (ps.take k)) ∧ Below w.heap.size w wr)) (fun _ i _ => ps.length - (intOf i).toNat)
      case atStart => exact ⟨0, Nat.zero_le _, rfl, hown, hb1⟩
      case round =>
        obtain ⟨k, hk, rfl, HR⟩ := hrel
        clear hown hb1
        by_cases hlt : k < ps.length
        · obtain ⟨c0, hr⟩ := HP.out k hlt
          have hsn := total_take_succ ps k hlt
          have hfl := flat_take_succ ps k hlt
          have hle2 := total_take_le ps (k + 1)
          have hone := (HP.out k hlt).2.2
          obtain ⟨ho, hbw⟩ := HR.out
          have c1 := cell_belowP hbw c0
          have hr2 := hr.1.below hbw
          have HS := Lib.hid hsn
          have HF := Lib.hid hfl
          have HO := Lib.hid ho
          have hsum : total (ps.take k) + ps[k].n ≤ total ps := by omega
          have hbs := hbw.size
          have hby : (total (ps.take k) + ps[k].n) * 1 ≤ total ps * 1 := Nat.mul_le_mul_right _ hsum
          clear hsn hfl ho hr
          generalize ps[k].n = n at *
          generalize ps[k].A = A at *
          generalize ps[k].c = c at *
          generalize ps[k].xs = xs at *
          clear c0
          go_wp2_with (at_builtin; refine wpList_append_any _ rfl _ _ 22 rfl w.heap.size 5 i0 (.int .u8 0 : Value) 1 1 Tryd.underlying22 HI.out HZ0.out HZ1.out HZ2.out rfl (by decide) _ _ _ rfl HO.out w.heap.size A n c xs rfl hr2 hone (by unfold maxLen; omega) (by omega) hbs ?_; intro v2 w2 hown2 hg2 _)
          go_roundw
          case rel => exact ⟨k + 1, by omega, by go_num, by rw [HS.out, HF.out]; exact hown2, below_append hbw HO.out hg2 hbs⟩
          case measure => simp [intOf]; omega
        · have hke : ps.take k = ps := List.take_of_length_le (by omega)
          rw [hke] at HR
          clear hke
          go_wp2
          go_ret
          exact ⟨_, rfl, HR.out.1, HR.out.2⟩
end Go.Proofs.YtkbbkamnmdeagaaDoor
