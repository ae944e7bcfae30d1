/-
  Memory told by parts that lie apart: each part has its blocks, and what it says of the world looks at these alone. Nothing of the program. No condition.
  Parts: cells to be read, bytes joined. Nothing of the program but its types. No condition.
  A frame is said: its bytes go behind what goes out. Condition: the frame is well; sizes are small.
  Coders by parts: New, Encode, Decode. Condition: as for the coder; one head each way.
  'append(v, x)' and 'append(v, xs...)' at any type, by parts. Condition: the row is small.
  Windows and states of streams: what they answer. No condition but that the numbers are small.
-/
import Derived.Test.YtbgnggkgmeagkaaGreatDoorMTopLines08
import Derived.Test.YtbgnggkgmeagkaaGreatDoorMTopLines09
import Derived.Test.YtbgnggkgmeagkaaGreatDoorMTopLines01
import Derived.Test.YtbgnggkgmeagkaaGreatDoorMTopLines04
import Derived.Test.YtbgnggkgmeagkaaGreatDoorMTopLines13
set_option linter.unusedSimpArgs false
set_option linter.unusedVariables false
namespace Go.Proofs.YtbgnggkgmeagkaaGreatDoor
open Go.RowKit

/-- A part: its blocks, what it says. -/
structure Atom where
  own : Nat → Prop
  holds : World → Prop
  loc : ∀ (S : Nat → Prop) (w w' : World), Keep S w w' → (∀ k, own k → ¬ S k) → (∀ k, own k → k < w.heap.size) → holds w → holds w'
/-- Parts that lie apart. -/
structure Sep (w : World) (L : List Atom) : Prop where
  all : ∀ a ∈ L, a.holds w ∧ ∀ k, a.own k → k < w.heap.size
  apart : L.Pairwise fun a b => ∀ k, a.own k → ¬ b.own k
section
variable {w w' : World} {L : List Atom} {a b : Atom} {i : Nat}
theorem Sep.get (h : Sep w L) (hi : L[i]? = some a) : a.holds w := (h.all a (List.mem_of_getElem? hi)).1
theorem Sep.lt (h : Sep w L) (hi : L[i]? = some a) {k : Nat} (hk : a.own k) : k < w.heap.size := (h.all a (List.mem_of_getElem? hi)).2 k hk
theorem Sep.ne (h : Sep w L) {i j : Nat} (hij : i ≠ j) (hi : L[i]? = some a) (hj : L[j]? = some b) {k : Nat} (hk : a.own k) : ¬ b.own k := by
  obtain ⟨h1, h2⟩ := List.getElem?_eq_some_iff.1 hi
  obtain ⟨h3, h4⟩ := List.getElem?_eq_some_iff.1 hj
  rcases Nat.lt_or_gt_of_ne hij with h5 | h5
  · have := List.pairwise_iff_getElem.1 h.apart i j h1 h3 h5
    rw [h2, h4] at this
    exact this k hk
  · have := List.pairwise_iff_getElem.1 h.apart j i h3 h1 h5
    rw [h2, h4] at this
    exact fun hb => this k hb hk
theorem Sep.kept (h : Sep w L) {S : Nat → Prop} (hk : Keep S w w') (hS : ∀ a ∈ L, ∀ k, a.own k → ¬ S k) : Sep w' L :=
  ⟨fun a ha => ⟨a.loc S w w' hk (hS a ha) (h.all a ha).2 (h.all a ha).1, fun k hk2 => Nat.lt_of_lt_of_le ((h.all a ha).2 k hk2) hk.size⟩, h.apart⟩
theorem Sep.below (h : Sep w L) (hb : Below w.heap.size w w') : Sep w' L := h.kept (Keep.of_below (S := fun _ => False) hb) fun _ _ _ _ h => h
theorem Sep.drew (h : Sep w L) : Sep w.drew L := h.below ((Below.refl _ _).drew)
theorem Sep.alloc (h : Sep w L) (o : Obj) : Sep (w.alloc o) L := h.below ((Below.refl _ _).alloc (Nat.le_refl _) o)
/-- A part changes, the others stay. -/
theorem Sep.upd (h : Sep w L) (hi : L[i]? = some a) (hk : Keep a.own w w') (hb : b.holds w') (hlt : ∀ k, b.own k → k < w'.heap.size) (hsub : ∀ k, b.own k → a.own k ∨ w.heap.size ≤ k) : Sep w' (L.set i b) := by
  obtain ⟨h1, h2⟩ := List.getElem?_eq_some_iff.1 hi
  have hno : ∀ j (hj : j < L.length), j ≠ i → ∀ k, (L[j]).own k → ¬ a.own k := fun j hj hji k hk2 => h.ne hji (List.getElem?_eq_getElem hj) hi hk2
  refine ⟨fun c hc => ?_, List.pairwise_iff_getElem.2 fun p q hp hq hpq k hk2 hk3 => ?_⟩
  · obtain ⟨j, hj, rfl⟩ := List.mem_iff_getElem.1 hc
    rw [List.length_set] at hj
    by_cases hji : j = i
    · subst hji
      rw [List.getElem_set_self]
      exact ⟨hb, hlt⟩
    · rw [List.getElem_set_ne (Ne.symm hji)]
      have hm := h.all _ (List.getElem_mem hj)
      exact ⟨(L[j]).loc a.own w w' hk (hno j hj hji) hm.2 hm.1, fun k hk2 => Nat.lt_of_lt_of_le (hm.2 k hk2) hk.size⟩
  · have hp' : p < L.length := by simpa using hp
    have hq' : q < L.length := by simpa using hq
    by_cases hpi : p = i
    · subst hpi
      rw [List.getElem_set_self] at hk2
      rw [List.getElem_set_ne (by omega)] at hk3
      rcases hsub k hk2 with h5 | h5
      · exact hno q hq' (by omega) k hk3 h5
      · have := (h.all _ (List.getElem_mem hq')).2 k hk3
        omega
    · by_cases hqi : q = i
      · subst hqi
        rw [List.getElem_set_self] at hk3
        rw [List.getElem_set_ne (by omega)] at hk2
        rcases hsub k hk3 with h5 | h5
        · exact hno p hp' hpi k hk2 h5
        · have := (h.all _ (List.getElem_mem hp')).2 k hk2
          omega
      · rw [List.getElem_set_ne (Ne.symm hpi)] at hk2
        rw [List.getElem_set_ne (Ne.symm hqi)] at hk3
        exact h.ne (by omega) (List.getElem?_eq_getElem hp') (List.getElem?_eq_getElem hq') hk2 hk3
/-- A new part. -/
theorem Sep.new (h : Sep w L) (hb : Below w.heap.size w w') (ha : a.holds w') (hn : ∀ k, a.own k → w.heap.size ≤ k ∧ k < w'.heap.size) : Sep w' (a :: L) := by
  have h' := h.below hb
  refine ⟨fun c hc => ?_, List.pairwise_cons.2 ⟨fun c hc k hk hk2 => ?_, h'.apart⟩⟩
  · rcases List.mem_cons.1 hc with rfl | hc
    · exact ⟨ha, fun k hk => (hn k hk).2⟩
    · exact h'.all c hc
  · have h1 := (hn k hk).1
    have h2 := (h.all c hc).2 k hk2
    omega
theorem Sep.sub (h : Sep w L) {M : List Atom} (hM : M.Sublist L) : Sep w M := ⟨fun a ha => h.all a (hM.subset ha), h.apart.sublist hM⟩
theorem Sep.perm (h : Sep w L) {M : List Atom} (hM : L.Perm M) : Sep w M :=
  ⟨fun a ha => h.all a (hM.mem_iff.2 ha), hM.pairwise h.apart fun {x y} h1 k hk hk2 => h1 k hk2 hk⟩
theorem Sep.tail (h : Sep w (a :: L)) : Sep w L := h.sub (List.sublist_cons_self _ _)
end
/-! ### kinds of parts -/
/-- A block that is known whole. -/
def blkA (g : Nat) (t : TypeId) (cs : Array Value) : Atom := ⟨fun k => k = g, fun w => Blk w g t cs, fun _ _ _ hk hS _ h => h.keep hk (hS g rfl)⟩
/-- A map that is known whole. -/
def mapA (r : Nat) (es : Array MapEntry) (c : Nat) : Atom := ⟨fun k => k = r, fun w => IsMap w r es c, fun _ _ _ hk hS hl h => (hk.block r (hl r rfl) (hS r rfl)).trans h⟩
/-- A row that is owned. -/
def rowA (e : TypeId) (size : Nat) (v : Value) (n : Nat) (xs : List Value) : Atom := ⟨fun k => v.ownBlock = some k, fun w => w.ownsRow 0 e size v n xs, fun _ _ _ hk hS _ h => ownRow_keep h hk hS⟩
/-- What was there before. -/
def oldA (w0 : World) : Atom := ⟨fun k => k < w0.heap.size, fun w => Below w0.heap.size w0 w, fun _ _ _ hk hS hl h => h.trans ⟨hk.os, hk.tape, hk.output, hk.size, fun k hk2 => hk.block k (hl k hk2) (hS k hk2)⟩⟩
section
variable {w w1 : World} {L : List Atom} {i g j : Nat} {t : TypeId} {cs : Array Value}
/-- The cells of a block. -/
theorem Sep.blk (h : Sep w L) (hi : L[i]? = some (blkA g t cs)) : Blk w g t cs := h.get hi
theorem Sep.set_ (h : Sep w L) (hi : L[i]? = some (blkA g t cs)) (j : Nat) (v : Value) : Sep (w.setCell ⟨g, j, none⟩ v) (L.set i (blkA g t (cs.setIfInBounds j v))) := by
  have hb := h.blk hi
  refine h.upd hi (show Keep (fun k => k = g) _ _ from (Keep.refl (fun k => k = g) w).setCell (p := ⟨g, j, none⟩) (.inl rfl) v) (hb.set_ j v) ?_ fun k hk => .inl hk
  rintro k rfl
  have := hb.lt
  simpa [World.setCell] using this
theorem Sep.old {w0 : World} (h : Sep w L) (hi : L[i]? = some (oldA w0)) : Below w0.heap.size w0 w := h.get hi
theorem Sep.row {e : TypeId} {size n : Nat} {v : Value} {xs : List Value} (h : Sep w L) (hi : L[i]? = some (rowA e size v n xs)) : w.ownsRow 0 e size v n xs := h.get hi
theorem Sep.grow {e : TypeId} {size n n' : Nat} {v v' : Value} {xs xs' : List Value} (h : Sep w L) (hi : L[i]? = some (rowA e size v n xs)) (hown : w1.ownsRow 0 e size v' n' xs') (hg : w.grownBy w1 v.ownBlock) (hv : v'.ownBlock = v.ownBlock ∨ ∀ k, v'.ownBlock = some k → w.heap.size ≤ k) : Sep w1 (L.set i (rowA e size v' n' xs')) := by
  refine h.upd hi (show Keep (fun k => v.ownBlock = some k) _ _ from (Keep.refl (fun k => v.ownBlock = some k) w).grown hg fun k hk => .inl hk) hown (fun k hk => (hown.lt k hk).2) fun k hk => ?_
  rcases hv with h1 | h1
  · exact .inl (show v.ownBlock = some k by rw [← h1]; exact hk)
  · exact .inr (h1 k hk)
theorem Sep.map_ {r c : Nat} {es : Array MapEntry} (h : Sep w L) (hi : L[i]? = some (mapA r es c)) : IsMap w r es c := h.get hi
theorem Sep.putMap {r c c' : Nat} {es es' : Array MapEntry} (h : Sep w L) (hi : L[i]? = some (mapA r es c)) : Sep (putM w r es' c') (L.set i (mapA r es' c')) := by
  have hm := h.map_ hi
  refine h.upd hi ⟨rfl, rfl, rfl, by rw [putM_size]; exact Nat.le_refl _, fun k _ hk => putM_other hk⟩ (putM_same hm) ?_ fun k hk => .inl hk
  rintro k rfl
  rw [putM_size]
  exact hm.lt
theorem Sep.newBlk (h : Sep w L) (t : TypeId) (cs : Array Value) : Sep (w.alloc (.cells cs t)) (blkA w.heap.size t cs :: L) :=
  h.new ((Below.refl _ _).alloc (Nat.le_refl _) _) (Blk.new w t cs) (by rintro k rfl; simp)
theorem Sep.newMap (h : Sep w L) : Sep (w.alloc (.map #[] 0)) (mapA w.heap.size #[] 0 :: L) :=
  h.new ((Below.refl _ _).alloc (Nat.le_refl _) _) (heap_alloc_new w _) (by rintro k rfl; simp)
theorem Sep.newRow {e : TypeId} {size n : Nat} {v : Value} {xs : List Value} (h : Sep w L) (hb : Below w.heap.size w w1) (ho : w1.ownsRow w.heap.size e size v n xs) : Sep w1 (rowA e size v n xs :: L) :=
  h.new hb ⟨ho.1, ho.2.imp id fun ⟨g, cap, cur, h1, _, h3⟩ => ⟨g, cap, cur, h1, Nat.zero_le _, h3⟩⟩ fun k hk => ho.lt k hk
theorem Sep.nilRow (h : Sep w L) (e : TypeId) (size : Nat) : Sep w (rowA e size (.slice none 0 0) 0 [] :: L) :=
  h.new (Below.refl _ _) (World.ownsRow_nil _ _ _ _) (by intro k hk; cases hk)
end
end Go.Proofs.YtbgnggkgmeagkaaGreatDoor
namespace Go.Proofs.YtbgnggkgmeagkaaGreatDoor
open Go.RowKit
theorem erase_perm : ∀ (L : List Atom) (i : Nat) (a : Atom), L[i]? = some a → L.Perm (a :: L.eraseIdx i)
  | [], _, _, h => by simp at h
  | b :: L, 0, a, h => by
    simp only [List.getElem?_cons_zero, Option.some.injEq] at h
    subst h
    exact List.Perm.refl _
  | b :: L, i + 1, a, h => by
    simp only [List.getElem?_cons_succ] at h
    exact ((erase_perm L i a h).cons b).trans (List.Perm.swap a b _)
theorem bs_ones (l : List UInt8) : ∀ u ∈ bs l, u.oneCell' = true := by
  intro u hu
  obtain ⟨b, _, rfl⟩ := List.mem_map.1 hu
  rfl
section
variable {w w' : World} {L : List Atom} {i g j : Nat} {t : TypeId} {cs : Array Value}
/-- The cells of a block, to be read. -/
theorem Sep.at_ (h : Sep w L) (hi : L[i]? = some (blkA g t cs)) : (∀ j, w.cell? ⟨g, j, none⟩ = cs[j]?) ∧ (∀ j, w.frozen? ⟨g, j, none⟩ = false) ∧ g < w.heap.size :=
  ⟨fun j => (h.blk hi).cell j, fun j => (h.blk hi).frozen j, (h.blk hi).lt⟩
theorem Sep.ne_ {i' g' : Nat} {t' : TypeId} {cs' : Array Value} (h : Sep w L) (hi : L[i]? = some (blkA g t cs)) (hj : L[i']? = some (blkA g' t' cs')) (hij : i ≠ i') : g ≠ g' := fun e => h.ne hij hi hj (k := g) rfl e
theorem Sep.neM {i' r c : Nat} {es : Array MapEntry} (h : Sep w L) (hi : L[i]? = some (blkA g t cs)) (hj : L[i']? = some (mapA r es c)) (hij : i ≠ i') : g ≠ r := fun e => h.ne hij hi hj (k := g) rfl e
/-- A part goes to the front. -/
theorem Sep.front {a : Atom} (h : Sep w L) (i : Nat) (hi : L[i]? = some a) : Sep w (a :: L.eraseIdx i) := h.perm (erase_perm L i a hi)
theorem Sep.drop_ (h : Sep w L) (i : Nat) : Sep w (L.eraseIdx i) := h.sub (List.eraseIdx_sublist L i)
end
/-- 'append(v, xs...)' at bytes, by parts. -/
theorem wpList_joinS {ops : Array Oper} {rest : List Oper} {o : Oper} {a : Act} {Q : Exit → Act → World → Prop} {w : World} {L : List Atom} {i : Nat} (hgd : o.guard = none) (s x : Operand)
    (ho : o.op = .call { callee := .builtin .append, args := #[s, x], argTypes := #[23, 23] })
    (v : Value) (n : Nat) (xs : List Value) (h0 : Sep w L) (hi : L[i]? = some (rowA 5 1 v n xs)) (hs : a.eval s = v)
    (A : Option Addr) (m c : Nat) (news : List UInt8) (hr : Reads w w.heap.size 1 A m (bs news)) (hx : a.eval x = .slice A m c) (hn : n + m ≤ 1000000)
    (h : ∀ A' c' w', Sep w' (L.set i (rowA 5 1 (.slice A' (n + m) c') (n + m) (xs ++ bs news))) → w.grownBy w' v.ownBlock → wpList Tryz.prog ops Q rest (a.put o.dst (.slice A' (n + m) c')) w') : wpList Tryz.prog ops Q (o :: rest) a w := by
  obtain ⟨i0, hi0, hz0, hz1, hz2⟩ := info_parts u8_info
  refine wpList_append_any _ hgd s x 23 ho 0 5 i0 (.int .u8 0) 1 1 Tryz.underlying23 hi0 hz0 hz1 hz2 rfl (by decide) v n xs hs (h0.row hi) w.heap.size A m c (bs news) hx hr (bs_ones _) (by simp only [maxLen]; omega) (by omega) (Nat.zero_le _) ?_
  intro v' w' hown' hg hloc
  obtain ⟨A', c', rfl⟩ := own_slice hown'
  refine h A' c' w' (h0.grow hi hown' hg ?_) hg
  rcases hloc with h1 | h1
  · exact .inl h1
  · right
    intro k hk
    rw [h1] at hk
    injection hk with hk
    omega
end Go.Proofs.YtbgnggkgmeagkaaGreatDoor
namespace Go.Proofs.YtbgnggkgmeagkaaGreatDoor
open Go.RowKit
theorem reads_sep {w : World} {L : List Atom} {i n : Nat} {e : TypeId} {A : Option Addr} {c : Nat} {xs : List Value} (h : Sep w L) (hi : L[i]? = some (rowA e 1 (.slice A n c) n xs)) : Reads w w.heap.size 1 A n xs := by
  obtain ⟨h1, h2⟩ := h.row hi
  refine ⟨h1, fun hn => ?_⟩
  rcases h2 with ⟨_, h3⟩ | ⟨g, cap, cur, hv, _, hg, hc, _, hcs, ht⟩
  · omega
  · cases hv
    refine ⟨⟨g, 0, none⟩, rfl, ?_, fun j u hj => ?_⟩
    · exact (Array.getElem?_eq_some_iff.1 hg).1
    · have hj2 := (List.getElem?_eq_some_iff.1 hj).1
      rw [← ht] at hj
      rw [List.getElem?_take] at hj
      have e1 : (Addr.add ⟨g, 0, none⟩ j) = ⟨g, j, none⟩ := by
        unfold Addr.add
        by_cases h0 : j = 0
        · rw [if_pos h0, h0]
        · rw [if_neg h0]; simp
      rw [e1]
      unfold World.cell?
      rw [hg]
      split at hj
      · simpa using hj
      · cases hj
set_option maxRecDepth 100000 in
set_option maxHeartbeats 2000000 in
theorem csay {w : World} {F : List Atom} (f : Frm) (hE : frmE f = 0) (A : Option Addr) (c : Nat) (hr : Reads w w.heap.size 1 A f.body.length (bs f.body)) (K : Nat) {d0 d1 d2 d3 d5 d6 d7 d8 d9 d10 d11 d12 d13 : Value} {A0 : Option Addr} {n0 k0 : Nat} {xs : List UInt8} (hn : n0 ≤ 100000)
    (h : Sep w (blkA K 126 #[d0, d1, d2, d3, .slice A0 n0 k0, d5, d6, d7, d8, d9, d10, d11, d12, d13] :: rowA 5 1 (.slice A0 n0 k0) n0 (bs xs) :: F)) :
    Calls Tryz.prog 55 #[.pointer (some ⟨K, 0, none⟩), .int .i64 f.K, .int .i64 f.F, .int .i64 f.S, .slice A f.body.length c] w fun e w' => e = .returned (.tuple #[]) ∧ ∃ A1 k1, Sep w' (blkA K 126 #[d0, d1, d2, d3, .slice A1 (n0 + (frmL f).length) k1, d5, d6, d7, d8, d9, d10, d11, d12, d13] :: rowA 5 1 (.slice A1 (n0 + (frmL f).length) k1) (n0 + (frmL f).length) (bs (xs ++ frmL f)) :: F) := by
  have hfl := frmL_length hE
  have hm := (frmE_zero hE).2
  have H := Lib.hid h
  have HR := Lib.hid hr
  have HE := Lib.hid hE
  have HFL := Lib.hid hfl
  clear h hr hE hfl
  go_enter Tryz.func55, Tryz.ntmps55
  go_wp2_with fail
  refine (fenc_own f A c HE.out _ HR.out).mono ?_
  rintro e w1 ⟨A1, c1, rfl, hg, hown⟩
  have h1 := H.out.below hg.2.2
  have hK := h1.at_ (i := 0) rfl
  have H1 := Lib.hid h1
  have HG := Lib.hid hg.2.1
  clear h1 hg hown
  rw [HE.out, errV_zero]
  go_wp2_with (at_builtin; refine wpList_joinS (i := 1) rfl _ _ rfl _ n0 (bs xs) H1.out rfl rfl _ _ _ _ HG.out rfl (by have := HFL.out; omega) ?_; intro A2 c2 w2 h2 _; have hK2 := h2.at_ (i := 0) rfl; have H2 := Lib.hid h2; clear h2 hK)
  refine bodyPost_end (results_none rfl _ _ _) rfl ?_
  refine ⟨rfl, A2, c2, ?_⟩
  have h3 := H2.out.set_ (i := 0) rfl 4 (.slice A2 (n0 + (frmL f).length) c2)
  rw [bs_append]
  exact h3
set_option maxRecDepth 100000 in
set_option maxHeartbeats 2000000 in
theorem nsay {w : World} {F : List Atom} (f : Frm) (hE : frmE f = 0) (A : Option Addr) (c : Nat) (hr : Reads w w.heap.size 1 A f.body.length (bs f.body)) (K : Nat) {d0 d1 d2 d3 d4 d6 d7 d8 d9 d10 d11 d12 d13 : Value} {A0 : Option Addr} {n0 k0 : Nat} {xs : List UInt8} (hn : n0 ≤ 100000)
    (h : Sep w (blkA K 200 #[d0, d1, d2, d3, d4, .slice A0 n0 k0, d6, d7, d8, d9, d10, d11, d12, d13] :: rowA 5 1 (.slice A0 n0 k0) n0 (bs xs) :: F)) :
    Calls Tryz.prog 102 #[.pointer (some ⟨K, 0, none⟩), .int .i64 f.K, .int .i64 f.F, .int .i64 f.S, .slice A f.body.length c] w fun e w' => e = .returned (.tuple #[]) ∧ ∃ A1 k1, Sep w' (blkA K 200 #[d0, d1, d2, d3, d4, .slice A1 (n0 + (frmL f).length) k1, d6, d7, d8, d9, d10, d11, d12, d13] :: rowA 5 1 (.slice A1 (n0 + (frmL f).length) k1) (n0 + (frmL f).length) (bs (xs ++ frmL f)) :: F) := by
  have hfl := frmL_length hE
  have hm := (frmE_zero hE).2
  have H := Lib.hid h
  have HR := Lib.hid hr
  have HE := Lib.hid hE
  have HFL := Lib.hid hfl
  clear h hr hE hfl
  go_enter Tryz.func102, Tryz.ntmps102
  go_wp2_with fail
  refine (fenc_own f A c HE.out _ HR.out).mono ?_
  rintro e w1 ⟨A1, c1, rfl, hg, hown⟩
  have h1 := H.out.below hg.2.2
  have hK := h1.at_ (i := 0) rfl
  have H1 := Lib.hid h1
  have HG := Lib.hid hg.2.1
  clear h1 hg hown
  rw [HE.out, errV_zero]
  go_wp2_with (at_builtin; refine wpList_joinS (i := 1) rfl _ _ rfl _ n0 (bs xs) H1.out rfl rfl _ _ _ _ HG.out rfl (by have := HFL.out; omega) ?_; intro A2 c2 w2 h2 _; have hK2 := h2.at_ (i := 0) rfl; have H2 := Lib.hid h2; clear h2 hK)
  refine bodyPost_end (results_none rfl _ _ _) rfl ?_
  refine ⟨rfl, A2, c2, ?_⟩
  have h3 := H2.out.set_ (i := 0) rfl 5 (.slice A2 (n0 + (frmL f).length) c2)
  rw [bs_append]
  exact h3
end Go.Proofs.YtbgnggkgmeagkaaGreatDoor
namespace Go.Proofs.YtbgnggkgmeagkaaGreatDoor
open Go.RowKit
section
variable {w w' : World} {M N F : List Atom}
/-- Some parts become others. -/
theorem Sep.swap (h : Sep w (M ++ F)) {S : Nat → Prop} (hk : Keep S w w') (hS : ∀ k, S k → ∃ a ∈ M, a.own k) (hN : Sep w' N) (hsub : ∀ b ∈ N, ∀ k, b.own k → (∃ a ∈ M, a.own k) ∨ w.heap.size ≤ k) : Sep w' (N ++ F) := by
  obtain ⟨h1, h2⟩ := h
  obtain ⟨h3, h4, h5⟩ := List.pairwise_append.1 h2
  refine ⟨fun a ha => ?_, List.pairwise_append.2 ⟨hN.apart, h4, fun b hb a ha k hk1 hk2 => ?_⟩⟩
  · rcases List.mem_append.1 ha with ha | ha
    · exact hN.all a ha
    · have h6 := h1 a (List.mem_append.2 (.inr ha))
      refine ⟨a.loc S w w' hk (fun k hk1 hk2 => ?_) h6.2 h6.1, fun k hk1 => Nat.lt_of_lt_of_le (h6.2 k hk1) hk.size⟩
      obtain ⟨b, hb, hbk⟩ := hS k hk2
      exact h5 b hb a ha k hbk hk1
  · rcases hsub b hb k hk1 with ⟨d, hd, hdk⟩ | h6
    · exact h5 d hd a ha k hdk hk2
    · have := (h1 a (List.mem_append.2 (.inr ha))).2 k hk2
      omega
theorem Sep.nil_ : Sep w [] := ⟨fun _ h => (by cases h), List.Pairwise.nil⟩
theorem Sep.cons_ {a : Atom} (h : Sep w N) (h1 : a.holds w) (h2 : ∀ k, a.own k → k < w.heap.size) (h3 : ∀ b ∈ N, ∀ k, a.own k → ¬ b.own k) : Sep w (a :: N) :=
  ⟨fun c hc => (List.mem_cons.1 hc).elim (fun e => by subst e; exact ⟨h1, h2⟩) (h.all c), List.pairwise_cons.2 ⟨h3, h.apart⟩⟩
end
/-- A table. -/
def tabA (g : Nat) (A : Option Addr) (c : Nat) (xs : List Fld) (mx : Nat) : Atom := ⟨tOwn g A, fun w => Tab w g A c xs mx, fun _ _ _ hk hS _ h => h.keep hk hS⟩
def coderV (g h : Nat) : Array Value := #[.pointer (some ⟨g, 0, none⟩), .pointer (some ⟨h, 0, none⟩), .int .i64 4096, .slice none 0 0, .bool false]
theorem sep_coder {w : World} {F : List Atom} (hF : Sep w F) :
    Calls Tryz.prog 9 #[.int .i64 4096] w fun e w' => ∃ C g h, e = .returned (.tuple #[.pointer (some ⟨C, 0, none⟩), .nilIface]) ∧ Sep w' (blkA C 93 (coderV g h) :: tabA g none 0 [] 4096 :: tabA h none 0 [] 4096 :: F) ∧ Below w.heap.size w w' := by
  refine (cnew_yes 4096 (Nat.le_refl _) w).mono ?_
  rintro e w' ⟨C, g, h, rfl, hO, hI, hb, hC, hg, hh, h1, h2⟩
  refine ⟨C, g, h, rfl, ?_, hb⟩
  have hn := hO.ne.1
  have hlO := hO.lt
  have hlI := hI.lt
  have hT : Sep w' [blkA C 93 (coderV g h), tabA g none 0 [] 4096, tabA h none 0 [] 4096] := by
    refine ((Sep.nil_.cons_ (a := tabA h none 0 [] 4096) hI.tab (fun k hk => hlI k (.inr hk)) (fun _ h => by cases h)).cons_ (a := tabA g none 0 [] 4096) hO.tab (fun k hk => hlO k (.inr (.inl hk))) ?_).cons_ (a := blkA C _ _) hO.blk (fun k hk => hlO k (.inl hk)) ?_
    · intro b hb2 k hk hk2
      simp only [List.mem_singleton] at hb2
      subst hb2
      rcases hk with rfl | ⟨_, h3, _⟩
      · rcases hk2 with h3 | ⟨_, h3, _⟩
        · exact h1 h3.symm
        · cases h3
      · cases h3
    · intro b hb2 k hk hk2
      have hk : k = C := hk
      subst hk
      simp only [List.mem_cons, List.not_mem_nil, or_false] at hb2
      rcases hb2 with rfl | rfl
      · exact hn hk2
      · rcases hk2 with h3 | ⟨_, h3, _⟩
        · exact h2 h3.symm
        · cases h3
  refine Sep.swap (M := []) (N := [_, _, _]) hF (Keep.of_below (S := fun _ => False) hb) (fun _ h => h.elim) hT ?_
  intro b hb2 k hk
  right
  simp only [List.mem_cons, List.not_mem_nil, or_false] at hb2
  rcases hb2 with rfl | rfl | rfl
  · rw [show k = C from hk]; exact hC
  · rcases hk with h3 | ⟨_, h3, _⟩
    · omega
    · cases h3
  · rcases hk with h3 | ⟨_, h3, _⟩
    · omega
    · cases h3
/-- Encode: the list lies elsewhere. The table is passed over behind. -/
theorem sep_encode {w : World} {C g h : Nat} {A : Option Addr} {c : Nat} {xs : List Fld} {F : List Atom} (H : Sep w (blkA C 93 (coderV g h) :: tabA g A c xs 4096 :: F)) (l : List Fld) (hf : ∀ f ∈ l, fOk f) (hm : l.length ≤ 140737488355328) (hE : saidE l = 0)
    (LA : Option Addr) (n lc i : Nat) (hn : n = l.length) (hi : F[i]? = some (rowA 41 2 (.slice LA n lc) n (fvs l))) :
    Calls Tryz.prog 10 #[.pointer (some ⟨C, 0, none⟩), .slice LA n lc] w fun e w' => ∃ A' n' c', e = .returned (.tuple #[.slice A' n' c', .nilIface]) ∧ n' = (saidL 4096 xs l).length ∧ Sep w' (rowA 5 1 (.slice A' n' c') n' (bs (saidL 4096 xs l)) :: blkA C 93 (coderV g h) :: F) := by
  have hO : COut w C g A c (.slice none 0 0) xs 4096 [] (.pointer (some ⟨h, 0, none⟩), .int .i64 4096, .bool false) := ⟨H.get (i := 0) rfl, H.get (i := 1) rfl, World.ownsRow_nil _ _ _ _⟩
  subst hn
  refine (cenc_fine hO (by simp) (fun _ => rfl) (by simp) l hf hm hE LA _ lc rfl (Reads.of_own (H.row (i := i + 2) hi)) ?_).mono ?_
  · intro ad e _ ho
    have h1 : (rowA 41 2 (.slice LA l.length lc) l.length (fvs l)).own ad.block := by rw [e]; rfl
    rcases ho with h2 | h2 | h2
    · exact H.ne (i := i + 2) (j := 0) (by omega) hi rfl h1 h2
    · exact H.ne (i := i + 2) (j := 1) (by omega) hi rfl h1 h2
    · cases h2
  · rintro e w' ⟨A', n', c', rfl, rfl, hc, hrd, hfr, A3, c3, h1, h2, h3, h4, h5⟩
    have e0 : saidP [] ++ saidL 4096 xs l = saidL 4096 xs l := rfl
    rw [e0] at *
    refine ⟨A', _, c', rfl, rfl, ?_⟩
    have hT : Sep w' [rowA 5 1 (.slice A' (saidL 4096 xs l).length c') (saidL 4096 xs l).length (bs (saidL 4096 xs l)), blkA C 93 (coderV g h)] := by
      refine (Sep.nil_.cons_ (a := blkA C _ _) h1.blk (fun k hk => h1.lt k (.inl hk)) (fun _ h => by cases h)).cons_ h5 (fun k hk => (h5.lt k hk).2) ?_
      intro b hb k hk hk2
      simp only [List.mem_singleton] at hb
      subst hb
      cases hA : A' with
      | none => rw [hA] at hk; cases hk
      | some ad =>
        rw [hA] at hk
        have hk : some ad.block = some k := hk
        injection hk with hk
        exact h4 ad hA (.inl (by rw [hk]; exact hk2))
    refine Sep.swap (M := [_, _]) (N := [_, _]) H h2 ?_ hT ?_
    · rintro k (h6 | h6 | h6)
      · exact ⟨blkA C 93 (coderV g h), by simp, h6⟩
      · exact ⟨tabA g A c xs 4096, by simp, h6⟩
      · cases h6
    · intro b hb k hk
      simp only [List.mem_cons, List.not_mem_nil, or_false] at hb
      rcases hb with rfl | rfl
      · right
        cases hA : A' with
        | none => rw [hA] at hk; cases hk
        | some ad =>
          rw [hA] at hk
          have hk : some ad.block = some k := hk
          injection hk with hk
          have := (hfr ad hA).1
          omega
      · exact .inl ⟨_, by simp, hk⟩
/-- Decode: the bytes lie elsewhere. The table is passed over behind. -/
theorem sep_decode {w : World} {C g h : Nat} {A : Option Addr} {c : Nat} {ys : List Fld} {F : List Atom} (H : Sep w (blkA C 93 (coderV g h) :: tabA h A c ys 4096 :: F)) (b : List UInt8) (LA : Option Addr) (n lc i : Nat) (hn : n = b.length) (h0 : 0 < n) (hm : n ≤ 140737488355328)
    (hi : F[i]? = some (rowA 5 1 (.slice LA n lc) n (bs b))) (ys' : List Fld) (my' : Nat) (L : List Fld) (hH : heard 4096 ys 4096 [] b = ⟨0, ys', my', L, 0⟩) :
    Calls Tryz.prog 11 #[.pointer (some ⟨C, 0, none⟩), .slice LA n lc] w fun e w' => ∃ A2 n2 c2, e = .returned (.tuple #[.slice A2 n2 c2, .nilIface]) ∧ n2 = L.length ∧ Sep w' (rowA 41 2 (.slice A2 n2 c2) n2 (fvs L) :: blkA C 93 (coderV g h) :: F) := by
  have hI : CIn w C h A c ys 4096 4096 false (.pointer (some ⟨g, 0, none⟩), .slice none 0 0) := ⟨H.get (i := 0) rfl, H.get (i := 1) rfl⟩
  subst hn
  have hcap : b.length ≤ lc := by
    obtain ⟨_, ⟨_, h1⟩ | ⟨_, _, _, h1, _, _, h2, _⟩⟩ := H.row (i := i + 2) hi
    · omega
    · cases h1; exact h2
  have hB : ∃ B, B < w.heap.size ∧ ¬ iOwn C h A B ∧ ∀ ad, LA = some ad → ad.block = B := by
    cases hA : LA with
    | none =>
      obtain ⟨_, ⟨_, h1⟩ | ⟨_, _, _, h1, _⟩⟩ := H.row (i := i + 2) hi
      · omega
      · rw [hA] at h1; cases h1
    | some ad =>
      have h1 : (rowA 5 1 (.slice LA b.length lc) b.length (bs b)).own ad.block := by rw [hA]; rfl
      refine ⟨ad.block, H.lt (i := i + 2) hi h1, ?_, fun a e => by cases e; rfl⟩
      rintro (h2 | h2)
      · exact H.ne (i := i + 2) (j := 0) (by omega) hi rfl h1 h2
      · exact H.ne (i := i + 2) (j := 1) (by omega) hi rfl h1 h2
  obtain ⟨B, hB1, hB2, hB3⟩ := hB
  refine (cdecode_ok hI (Nat.le_refl _) b LA _ lc rfl hcap hm B hB1 hB2 (Reads.of_own (H.row (i := i + 2) hi)) hB3 ys' my' L hH).mono ?_
  rintro e w' ⟨A2, n2, c2, rfl, rfl, hown, A', c', h1, h2, h3⟩
  refine ⟨A2, _, c2, rfl, rfl, ?_⟩
  have hT : Sep w' [rowA 41 2 (.slice A2 L.length c2) L.length (fvs L), blkA C 93 (coderV g h)] := by
    refine (Sep.nil_.cons_ (a := blkA C _ _) h1.blk (fun k hk => h1.lt k (.inl hk)) (fun _ h => by cases h)).cons_ (a := rowA _ _ _ _ _) (own_down hown (Nat.zero_le _)) (fun k hk => (hown.lt k hk).2) ?_
    intro b hb k hk hk2
    simp only [List.mem_singleton] at hb
    subst hb
    have h4 := (hown.lt k hk).1
    have h5 := H.lt (i := 0) rfl (k := k) hk2
    omega
  refine Sep.swap (M := [_, _]) (N := [_, _]) H h2 ?_ hT ?_
  · rintro k (h6 | h6)
    · exact ⟨blkA C 93 (coderV g h), by simp, h6⟩
    · exact ⟨tabA h A c ys 4096, by simp, h6⟩
  · intro b hb k hk
    simp only [List.mem_cons, List.not_mem_nil, or_false] at hb
    rcases hb with rfl | rfl
    · exact .inr (hown.lt k hk).1
    · exact .inl ⟨_, by simp, hk⟩
end Go.Proofs.YtbgnggkgmeagkaaGreatDoor
namespace Go.Proofs.YtbgnggkgmeagkaaGreatDoor
open Go.RowKit
theorem Blk.reads_ {w : World} {g size n : Nat} {e : TypeId} {cs : Array Value} (h : Blk w g e cs) (hs : cs.size = n * size) : Reads w w.heap.size size (some ⟨g, 0, none⟩) n cs.toList := by
  refine ⟨by simpa using hs, fun _ => ⟨_, rfl, h.lt, fun j u hj => ?_⟩⟩
  rw [Addr.add_lit, Nat.zero_add, h.cell j]
  simpa using hj
/-- A row at the front of a list, or anywhere: one element is pushed that lies in a block. -/
theorem wpList_pushS {ops : Array Oper} {rest : List Oper} {o : Oper} {a : Act} {Q : Exit → Act → World → Prop} {w : World} {L : List Atom} {i j : Nat} (hgd : o.guard = none) (s x : Operand) (ts e : TypeId)
    (ho : o.op = .call { callee := .builtin .append, args := #[s, x], argTypes := #[ts, ts] })
    (hu : Tryz.prog.underlying ts = some (.slice e)) {z0 : Value} {size bytes : Nat} (hinf : (Tryz.prog.info? e).map (fun i => (i.zero, i.size, i.bytes)) = some (some z0, size, bytes)) (hzs : z0.cells.size = size) (hsz : 0 < size) (hby : bytes ≤ 1000)
    (v : Value) (n : Nat) (xs : List Value) (h0 : Sep w L) (hi : L[i]? = some (rowA e size v n xs)) (hs : a.eval s = v)
    (g : Nat) (cs : Array Value) (hj : L[j]? = some (blkA g e cs)) (hcs : cs.size = size) (hone : ∀ u ∈ cs.toList, u.oneCell' = true) (hx : a.eval x = .slice (some ⟨g, 0, none⟩) 1 1) (hn : n + 1 ≤ 1000000)
    (h : ∀ A' c' w', Sep w' (L.set i (rowA e size (.slice A' (n + 1) c') (n + 1) (xs ++ cs.toList))) → w.grownBy w' v.ownBlock → wpList Tryz.prog ops Q rest (a.put o.dst (.slice A' (n + 1) c')) w') : wpList Tryz.prog ops Q (o :: rest) a w := by
  obtain ⟨i0, hi0, hz0, hz1, hz2⟩ := info_parts hinf
  have hb : (n + 1) * bytes ≤ 1000000 * 1000 := Nat.mul_le_mul hn hby
  refine wpList_append_any _ hgd s x ts ho 0 e i0 z0 size bytes hu hi0 hz0 hz1 hz2 hzs hsz v n xs hs (h0.row hi) w.heap.size (some ⟨g, 0, none⟩) 1 1 cs.toList hx ((h0.blk hj).reads_ (by omega)) hone (by simp only [maxLen]; omega) (by omega) (Nat.zero_le _) ?_
  intro v' w' hown' hg hloc
  obtain ⟨A', c', rfl⟩ := own_slice hown'
  refine h A' c' w' (h0.grow hi hown' hg ?_) hg
  rcases hloc with h1 | h1
  · exact .inl h1
  · right
    intro k hk
    rw [h1] at hk
    injection hk with hk
    omega
/-- Another row is joined, the rows being of any type. -/
theorem wpList_joinA {ops : Array Oper} {rest : List Oper} {o : Oper} {a : Act} {Q : Exit → Act → World → Prop} {w : World} {L : List Atom} {i : Nat} (hgd : o.guard = none) (s x : Operand) (ts e : TypeId)
    (ho : o.op = .call { callee := .builtin .append, args := #[s, x], argTypes := #[ts, ts] })
    (hu : Tryz.prog.underlying ts = some (.slice e)) {z0 : Value} {size bytes : Nat} (hinf : (Tryz.prog.info? e).map (fun i => (i.zero, i.size, i.bytes)) = some (some z0, size, bytes)) (hzs : z0.cells.size = size) (hsz : 0 < size) (hby : bytes ≤ 1000)
    (v : Value) (n : Nat) (xs : List Value) (h0 : Sep w L) (hi : L[i]? = some (rowA e size v n xs)) (hs : a.eval s = v)
    (A : Option Addr) (m c : Nat) (news : List Value) (hr : Reads w w.heap.size size A m news) (hone : ∀ u ∈ news, u.oneCell' = true) (hx : a.eval x = .slice A m c) (hn : n + m ≤ 1000000)
    (h : ∀ A' c' w', Sep w' (L.set i (rowA e size (.slice A' (n + m) c') (n + m) (xs ++ news))) → w.grownBy w' v.ownBlock → wpList Tryz.prog ops Q rest (a.put o.dst (.slice A' (n + m) c')) w') : wpList Tryz.prog ops Q (o :: rest) a w := by
  obtain ⟨i0, hi0, hz0, hz1, hz2⟩ := info_parts hinf
  have hb : (n + m) * bytes ≤ 1000000 * 1000 := Nat.mul_le_mul hn hby
  refine wpList_append_any _ hgd s x ts ho 0 e i0 z0 size bytes hu hi0 hz0 hz1 hz2 hzs hsz v n xs hs (h0.row hi) w.heap.size A m c news hx hr hone (by simp only [maxLen]; omega) (by omega) (Nat.zero_le _) ?_
  intro v' w' hown' hg hloc
  obtain ⟨A', c', rfl⟩ := own_slice hown'
  refine h A' c' w' (h0.grow hi hown' hg ?_) hg
  rcases hloc with h1 | h1
  · exact .inl h1
  · right
    intro k hk
    rw [h1] at hk
    injection hk with hk
    omega
set_option maxRecDepth 10000 in
/-- The same two in a region that draws its order. -/
theorem step_joinA {ops : Array Oper} {o : Oper} {a : Act} {K : Act → World → Prop} {Q : Exit → Act → World → Prop} {E : Prop} {w : World} {L : List Atom} {i : Nat} (hgd : o.guard = none) (s x : Operand) (ts e : TypeId)
    (ho : o.op = .call { callee := .builtin .append, args := #[s, x], argTypes := #[ts, ts] })
    (hu : Tryz.prog.underlying ts = some (.slice e)) {z0 : Value} {size bytes : Nat} (hinf : (Tryz.prog.info? e).map (fun i => (i.zero, i.size, i.bytes)) = some (some z0, size, bytes)) (hzs : z0.cells.size = size) (hsz : 0 < size) (hby : bytes ≤ 1000)
    (v : Value) (n : Nat) (xs : List Value) (h0 : Sep w L) (hi : L[i]? = some (rowA e size v n xs)) (hs : a.eval s = v)
    (A : Option Addr) (m c : Nat) (news : List Value) (hr : Reads w w.heap.size size A m news) (hone : ∀ u ∈ news, u.oneCell' = true) (hx : a.eval x = .slice A m c) (hn : n + m ≤ 1000000)
    (h : ∀ A' c' w', Sep w' (L.set i (rowA e size (.slice A' (n + m) c') (n + m) (xs ++ news))) → w.grownBy w' v.ownBlock → K (a.put o.dst (.slice A' (n + m) c')) w') :
    if Region.wanted o (yielded ops a.tmps) = true then Oper.wp Tryz.prog o a w K Q else E := by
  obtain ⟨i0, hi0, hz0, hz1, hz2⟩ := info_parts hinf
  have hb : (n + m) * bytes ≤ 1000000 * 1000 := Nat.mul_le_mul hn hby
  refine step_append_any w hgd s x ts ho 0 e i0 z0 size bytes hu hi0 hz0 hz1 hz2 hzs hsz v n xs hs (h0.row hi) w.heap.size A m c news hx hr hone (by simp only [maxLen]; omega) (by omega) (Nat.zero_le _) ?_
  intro v' w' hown' hg hloc
  obtain ⟨A', c', rfl⟩ := own_slice hown'
  refine h A' c' w' (h0.grow hi hown' hg ?_) hg
  rcases hloc with h1 | h1
  · exact .inl h1
  · right
    intro k hk
    rw [h1] at hk
    injection hk with hk
    omega
theorem step_pushS {ops : Array Oper} {o : Oper} {a : Act} {K : Act → World → Prop} {Q : Exit → Act → World → Prop} {E : Prop} {w : World} {L : List Atom} {i j : Nat} (hgd : o.guard = none) (s x : Operand) (ts e : TypeId)
    (ho : o.op = .call { callee := .builtin .append, args := #[s, x], argTypes := #[ts, ts] })
    (hu : Tryz.prog.underlying ts = some (.slice e)) {z0 : Value} {size bytes : Nat} (hinf : (Tryz.prog.info? e).map (fun i => (i.zero, i.size, i.bytes)) = some (some z0, size, bytes)) (hzs : z0.cells.size = size) (hsz : 0 < size) (hby : bytes ≤ 1000)
    (v : Value) (n : Nat) (xs : List Value) (h0 : Sep w L) (hi : L[i]? = some (rowA e size v n xs)) (hs : a.eval s = v)
    (g : Nat) (cs : Array Value) (hj : L[j]? = some (blkA g e cs)) (hcs : cs.size = size) (hone : ∀ u ∈ cs.toList, u.oneCell' = true) (hx : a.eval x = .slice (some ⟨g, 0, none⟩) 1 1) (hn : n + 1 ≤ 1000000)
    (h : ∀ A' c' w', Sep w' (L.set i (rowA e size (.slice A' (n + 1) c') (n + 1) (xs ++ cs.toList))) → w.grownBy w' v.ownBlock → K (a.put o.dst (.slice A' (n + 1) c')) w') :
    if Region.wanted o (yielded ops a.tmps) = true then Oper.wp Tryz.prog o a w K Q else E :=
  step_joinA hgd s x ts e ho hu hinf hzs hsz hby v n xs h0 hi hs (some ⟨g, 0, none⟩) 1 1 cs.toList ((h0.blk hj).reads_ (by omega)) hone hx hn h
end Go.Proofs.YtbgnggkgmeagkaaGreatDoor
namespace Go.Proofs.YtbgnggkgmeagkaaGreatDoor
open Go.RowKit

set_option maxRecDepth 100000 in
set_option maxHeartbeats 1000000 in
theorem fl_new (n : Nat) (hn : n ≤ 2147483647) (w : World) :
    Calls Tryz.prog 103 #[.int .i64 (n : Int)] w fun e w' => e = .returned (.tuple #[.pointer (some ⟨w.heap.size, 0, none⟩), .nilIface]) ∧ w' = w.alloc (.cells #[.int .i64 (n : Int)] 123) := by
  have h0 : (0 : Int) ≤ ((n : Nat) : Int) := by omega
  have h1 : ((n : Nat) : Int) ≤ 2147483647 := by omega
  go_enter Tryz.func103, Tryz.ntmps103
  go_wp2
  go_ret2
  exact ⟨rfl, rfl⟩
set_option maxRecDepth 100000 in
set_option maxHeartbeats 1000000 in
theorem fl_left (p : Addr) (n : Int) (w : World) (hp : w.cell? p = some (.int .i64 n)) :
    Calls Tryz.prog 106 #[.pointer (some p)] w fun e w' => e = .returned (.int .i64 n) ∧ w' = w := by
  obtain ⟨b, o, s⟩ := p
  have hs := World.cell?_spot hp
  simp only at hs
  subst hs
  have hl := World.block_lt_of_cell? w _ hp
  go_enter Tryz.func106, Tryz.ntmps106
  go_wp2
  go_ret
  exact ⟨rfl, rfl⟩
set_option maxRecDepth 100000 in
set_option maxHeartbeats 1000000 in
theorem fl_take (b o n k : Nat) (hk : k ≤ n) (hn : n ≤ 2147483647) (w : World) (hp : w.cell? ⟨b, o, none⟩ = some (.int .i64 (n : Int))) (hf : w.frozen? ⟨b, o, none⟩ = false) :
    Calls Tryz.prog 107 #[.pointer (some ⟨b, o, none⟩), .int .i64 (k : Int)] w fun e w' => e = .returned .nilIface ∧ w' = w.setCell ⟨b, o, none⟩ (.int .i64 ((n - k : Nat) : Int)) := by
  have hl := World.block_lt_of_cell? w _ hp
  have h0 : ¬ ((k : Nat) : Int) < 0 := by omega
  have h1 : ¬ ((n : Nat) : Int) < ((k : Nat) : Int) := by omega
  have h3 : ¬ n < k := by omega
  have h2 : wrap64 (((n : Nat) : Int) - ((k : Nat) : Int)) = ((n - k : Nat) : Int) := by unfold wrap64; omega
  have h4 : ((n : Nat) : Int) - ((k : Nat) : Int) = ((n - k : Nat) : Int) := by omega
  go_enter Tryz.func107, Tryz.ntmps107
  go_wp2
  go_ret
  exact ⟨rfl, by simp [h2, h4]⟩
set_option maxRecDepth 100000 in
set_option maxHeartbeats 1000000 in
theorem fl_due (a : Nat) (h : 1000 ≤ a) (ha : a ≤ 2147483647) (w : World) :
    Calls Tryz.prog 284 #[.int .i64 (a : Int), .int .i64 2000] w fun e w' => e = .returned (.int .i64 0) ∧ w' = w := by
  have h0 : ¬ ((a : Nat) : Int) < 1000 := by omega
  go_enter Tryz.func284, Tryz.ntmps284
  go_wp2
  go_ret
  exact ⟨rfl, rfl⟩
/-- What a side hears: head, then data with the end. -/
theorem st_hear_head (w : World) : Calls Tryz.prog 275 #[.int .i64 0, .int .i64 1, .bool false] w fun e w' => e = .returned (.tuple #[.int .i64 1, .int .i64 0, .bool false]) ∧ w' = w := by
  go_enter Tryz.func275, Tryz.ntmps275
  go_wp2
  go_ret3
  exact ⟨rfl, rfl⟩
theorem st_hear_data (w : World) : Calls Tryz.prog 275 #[.int .i64 1, .int .i64 0, .bool true] w fun e w' => e = .returned (.tuple #[.int .i64 2, .int .i64 0, .bool false]) ∧ w' = w := by
  go_enter Tryz.func275, Tryz.ntmps275
  go_wp2
  go_ret3
  exact ⟨rfl, rfl⟩
end Go.Proofs.YtbgnggkgmeagkaaGreatDoor
