/-
  Two coders, one that says, one that hears: the words of the law HeadBack. Condition: the fields' texts' lengths.
-/
import Derived.Test.YtkbbkamnmdeagaaHdec3
import Derived.Test.YtkbbkamnmdeagaaSameF
namespace Go.Proofs.Ytkbbkamnmdeagaa
open Go.RowKit

/-- Two coders in one world, nothing of theirs below the law's own call. -/
structure HB (w0 wr : World) (C g : Nat) (A : Option Addr) (c : Nat) (Sv : Value) (xs : List Fld) (mx : Nat) (ps : List Nat) (D h : Nat) (A' : Option Addr) (c' : Nat) (ys : List Fld) (my max : Nat) : Prop where
  co : COut wr C g A c Sv xs mx ps
  ci : CIn wr D h A' c' ys my max false
  al : Alike max xs mx ps ys my
  sv : ps = [] → Sv = .slice none 0 0
  ob : ∀ k, oOwn C g A Sv k → w0.heap.size ≤ k
  ib : ∀ k, iOwn D h A' k → w0.heap.size ≤ k
  dj : ∀ k, oOwn C g A Sv k → ¬ iOwn D h A' k
  bw : Below w0.heap.size w0 wr
section
variable {w0 wr w1 : World} {C g c mx D h c' my max : Nat} {A A' : Option Addr} {Sv : Value} {xs ys : List Fld} {ps : List Nat}
theorem HB.next (H : HB w0 wr C g A c Sv xs mx ps D h A' c' ys my max) (hb : Below wr.heap.size wr w1) : HB w0 w1 C g A c Sv xs mx ps D h A' c' ys my max :=
  ⟨H.co.below hb, H.ci.below hb, H.al, H.sv, H.ob, H.ib, H.dj, H.bw.trans (hb.mono H.bw.size)⟩
theorem hb_new {w w1 w2 : World} {m C g D h : Nat} (hm : m ≤ 4096) (h1o : COut w1 C g none 0 (.slice none 0 0) [] m []) (hb1 : Below w.heap.size w w1) (hC : w.heap.size ≤ C) (hg : w.heap.size ≤ g) (h2i : CIn w2 D h none 0 [] m m false) (hb2 : Below w1.heap.size w1 w2) (hD : w1.heap.size ≤ D) (hh : w1.heap.size ≤ h) :
    HB w w2 C g none 0 (.slice none 0 0) [] m [] D h none 0 [] m m := by
  have hs := hb1.size
  have hlt := h1o.lt
  refine ⟨h1o.below hb2, h2i, Alike.new m hm, fun _ => rfl, ?_, ?_, ?_, hb1.trans (hb2.mono hb1.size)⟩
  · rintro k (rfl | (rfl | ⟨a, ha, _⟩) | hk)
    · exact hC
    · exact hg
    · cases ha
    · simp [Value.ownBlock] at hk
  · rintro k (rfl | (rfl | ⟨a, ha, _⟩))
    · omega
    · omega
    · cases ha
  · intro k hk hi
    have h1 := hlt k hk
    rcases hi with rfl | (rfl | ⟨a, ha, _⟩)
    · omega
    · omega
    · cases ha
/-- What stays of the hearer, what the sayer does. -/
theorem HB.out {w1 : World} {A2 : Option Addr} {c2 mx2 : Nat} {Sv2 : Value} {xs2 : List Fld} {ps2 : List Nat} (H : HB w0 wr C g A c Sv xs mx ps D h A' c' ys my max) (hco : COut w1 C g A2 c2 Sv2 xs2 mx2 ps2) (hk : Keep (oOwn C g A Sv) wr w1) (hf : ∀ k, oOwn C g A2 Sv2 k → oOwn C g A Sv k ∨ wr.heap.size ≤ k) :
    CIn w1 D h A' c' ys my max false ∧ (∀ k, oOwn C g A2 Sv2 k → w0.heap.size ≤ k) ∧ (∀ k, oOwn C g A2 Sv2 k → ¬ iOwn D h A' k) ∧ Below w0.heap.size w0 w1 := by
  have hil := H.ci.lt
  refine ⟨H.ci.keep hk fun k hi ho => H.dj k ho hi, fun k ho => ?_, fun k ho hi => ?_, H.bw.trans (hk.below H.bw.size H.ob)⟩
  · rcases hf k ho with h1 | h1
    · exact H.ob k h1
    · exact Nat.le_trans H.bw.size h1
  · rcases hf k ho with h1 | h1
    · exact H.dj k h1 hi
    · have := hil k hi
      omega
theorem hb_resize (H : HB w0 wr C g A c Sv xs mx ps D h A' c' ys my max) (p : Nat) (hp : p ≤ max) (hl : ps.length ≤ 1000000) :
    Calls Try.prog 21 #[.pointer (some ⟨C, 0, none⟩), .int .i64 (p : Int)] wr fun e w' => e = .returned .nilIface ∧ ∃ A2 c2 Sv2, HB w0 w' C g A2 c2 Sv2 (shr p xs) p (ps ++ [p]) D h A' c' ys my max := by
  have hmm := H.al.mmax
  refine (cresize_yes H.co p (by omega) hl).mono ?_
  rintro e w' ⟨he, A2, c2, Sv2, h1, h2, h3⟩
  obtain ⟨k1, k2, k3, k4⟩ := H.out h1 h2 h3
  exact ⟨he, A2, c2, Sv2, h1, k1, H.al.resize p hp, fun h => by simp at h, k2, H.ib, k3, k4⟩
theorem hb_fault (H : HB w0 wr C g A c Sv xs mx ps D h A' c' ys my max) (l : List Fld) (hf : ∀ f ∈ l, fOk f) (hm : l.length ≤ 140737488355328) (hE : saidE l ≠ 0) (LA : Option Addr) (n lc : Nat) (hn : n = l.length) (hr : Reads wr wr.heap.size 2 LA l.length (fvs l)) :
    Calls Try.prog 19 #[.pointer (some ⟨C, 0, none⟩), .slice LA n lc] wr fun e w' => e = .returned (.tuple #[.slice none 0 0, .iface 23 (.int .i64 4)]) ∧ HB w0 w' C g A c Sv xs mx ps D h A' c' ys my max := by
  refine (cenc_fault C l hf hm hE LA n lc hn wr hr).mono ?_
  rintro e w' ⟨he, hb⟩
  exact ⟨he, H.next hb⟩
/-- Said, not yet heard. -/
structure HM (w0 wr : World) (C g : Nat) (A : Option Addr) (c : Nat) (xs : List Fld) (mx D h : Nat) (A' : Option Addr) (c' : Nat) (ys : List Fld) (my max : Nat) (l : List Fld) (b : List UInt8) (A2 : Option Addr) (c2 B : Nat) : Prop where
  co : COut wr C g A c (.slice none 0 0) xs mx []
  ci : CIn wr D h A' c' ys my max false
  al : Alike max xs mx [] xs mx
  hd : heard max ys my [] b = ⟨0, xs, mx, l, 0⟩
  ob : ∀ k, oOwn C g A (.slice none 0 0) k → w0.heap.size ≤ k
  ib : ∀ k, iOwn D h A' k → w0.heap.size ≤ k
  dj : ∀ k, oOwn C g A (.slice none 0 0) k → ¬ iOwn D h A' k
  bw : Below w0.heap.size w0 wr
  rd : Reads wr wr.heap.size 1 A2 b.length (bs b)
  cp : b.length ≤ c2
  sm : b.length ≤ 140737488355328
  bl : ∀ ad, A2 = some ad → ad.block = B
  bs_ : B < wr.heap.size
  bi : ¬ iOwn D h A' B
theorem hb_said (H : HB w0 wr C g A c Sv xs mx ps D h A' c' ys my max) (l : List Fld) (hf : ∀ f ∈ l, fOk f) (hm : l.length ≤ 140737488355328) (hpl : ps.length ≤ 1000000) (hE : saidE l = 0) (LA : Option Addr) (n lc : Nat) (hn : n = l.length) (hr : Reads wr wr.heap.size 2 LA l.length (fvs l)) (hLA : ∀ ad, LA = some ad → 0 < l.length → ¬ oOwn C g A Sv ad.block) :
    Calls Try.prog 19 #[.pointer (some ⟨C, 0, none⟩), .slice LA n lc] wr fun e w' => ∃ b A2 c2 A3 c3 B, e = .returned (.tuple #[.slice A2 b.length c2, .nilIface]) ∧ HM w0 w' C g A3 c3 (nextL mx xs l) mx D h A' c' ys my max l b A2 c2 B := by
  have hmm := H.al.mmax
  have hsaid := H.al.said l hE
  have hil := H.ci.lt
  refine (cenc_fine H.co (fun p hp => Nat.le_trans (H.al.pmax p hp) hmm) H.sv hpl l hf hm hE LA n lc hn hr hLA).mono ?_
  rintro e w' ⟨A2, n2, c2, rfl, rfl, hc, hrd, hfr, A3, c3, h1, h2, h3⟩
  obtain ⟨k1, k2, k3, k4⟩ := H.out h1 h2 h3
  have hsm : (saidP ps ++ saidL mx xs l).length ≤ 140737488355328 := by
    have e1 := saidL_len mx H.co.tab.mx l xs H.co.tab.wt
    have e2 := saidP_len ps (fun p hp => Nat.le_trans (H.al.pmax p hp) hmm)
    have e3 : l.length ≤ 40 := by
      unfold saidE at hE
      split at hE
      · cases hE
      · rename_i h
        simp only [Bool.or_eq_true, not_or, Bool.not_eq_true] at h
        exact (fOk_little h.1).2
    rw [List.length_append]
    omega
  cases A2 with
  | none =>
    have hCw := H.co.lt C (.inl rfl)
    refine ⟨_, none, c2, A3, c3, C, rfl, h1, k1, hsaid.2, hsaid.1, k2, H.ib, k3, k4, hrd, hc, hsm, (fun ad e => by cases e), ?_, H.dj C (.inl rfl)⟩
    have := h2.size
    omega
  | some ad =>
    have e1 := hfr ad rfl
    refine ⟨_, some ad, c2, A3, c3, ad.block, rfl, h1, k1, hsaid.2, hsaid.1, k2, H.ib, k3, k4, hrd, hc, hsm, (fun a e => by cases e; rfl), e1.2, fun hi => ?_⟩
    have := hil ad.block hi
    omega
theorem hb_heard {b : List UInt8} {l : List Fld} {A2 : Option Addr} {c2 B : Nat} (H : HM w0 wr C g A c xs mx D h A' c' ys my max l b A2 c2 B) :
    Calls Try.prog 20 #[.pointer (some ⟨D, 0, none⟩), .slice A2 b.length c2] wr fun e w' => ∃ A3 c3 A4 c4, e = .returned (.tuple #[.slice A3 l.length c3, .nilIface]) ∧ w'.ownsRow wr.heap.size 40 2 (.slice A3 l.length c3) l.length (fvs l) ∧ HB w0 w' C g A c (.slice none 0 0) xs mx [] D h A4 c4 xs mx max := by
  have hol := H.co.lt
  refine (cdecode_ok H.ci H.al.mmax b A2 _ c2 rfl H.cp H.sm B H.bs_ H.bi H.rd H.bl xs mx l H.hd).mono ?_
  rintro e w' ⟨A3, n3, c3, rfl, rfl, hrow, A4, c4, h1, h2, h3⟩
  refine ⟨A3, c3, A4, c4, rfl, hrow, H.co.keep h2 (fun k ho hi => H.dj k ho hi), h1, H.al, fun _ => rfl, H.ob, fun k hi => ?_, fun k ho hi => ?_, H.bw.trans (h2.below H.bw.size H.ib)⟩
  · rcases h3 k hi with e1 | e1
    · exact H.ib k e1
    · exact Nat.le_trans H.bw.size e1
  · rcases h3 k hi with e1 | e1
    · exact H.dj k ho e1
    · have := hol k ho
      omega
end
end Go.Proofs.Ytkbbkamnmdeagaa
