/-
  A head of one frame. Condition: the block is short, not empty.
  A literal of bytes is marked (a conversion of a slice to its own type): its cells stay. No condition.
  A region that draws its order, by a state that each step keeps, whatever came before it. No condition.
  What a stream may say: a head, a body with the end. No condition.
  Parts in another order, some left out, in one step. Nothing of the program. No condition.
  Arguments opened: bytes, a string, with the form's own reach. No condition.
  Arguments opened further: lists of fields, lists of lists. No condition.
-/
import Derived.Test.YtbgnggkgmeagkaaGreatDoorMTopLinesSplit
import Derived.Test.YtbgnggkgmeagkaaGreatDoorMTopLines04
import Derived.Test.YtbgnggkgmeagkaaGreatDoorMTopLines14
import Derived.Lib.SlBytesConst
import Derived.OrdersIn
import Derived.Test.YtbgnggkgmeagkaaGreatDoorMTopLines01
import Derived.ProofKit
import Derived.OpenShut
import Derived.ShutString
import Derived.SizedLaws
import Derived.Test.YtbgnggkgmeagkaaGreatDoorMTopLines03
import Derived.Deep.SlicePairs
import Derived.Lib.SmallJoins
set_option linter.unusedSimpArgs false
set_option linter.unusedVariables false
namespace Go.Proofs.YtbgnggkgmeagkaaGreatDoor
open Go.RowKit
theorem split_one (st : Int) (block : List UInt8) (A : Option Addr) (len c : Nat) (hlen : len = block.length) (h0 : 0 < block.length) (hm : block.length ≤ 1024) (hcap : block.length ≤ c) (fin : Bool) (w : World) (hr : Reads w w.heap.size 1 A block.length (bs block)) :
    Calls Tryz.prog 57 #[.int .i64 st, .slice A len c, .bool fin] w fun e w' => ∃ g c' A' ac, e = .returned (.slice (some ⟨g, 0, none⟩) 1 c') ∧ Below w.heap.size w w' ∧
      (w'.cell? ⟨g, 0, none⟩ = some (.int .i64 1) ∧ w'.cell? ⟨g, 1, none⟩ = some (.int .i64 ((if fin then 1 else 0) + 4)) ∧ w'.cell? ⟨g, 2, none⟩ = some (.int .i64 st) ∧ w'.cell? ⟨g, 3, none⟩ = some (.slice A' block.length ac)) ∧ Reads w' w'.heap.size 1 A' block.length (bs block) := by
  refine (split_any st block A len c hlen (by omega) hcap fin w hr).mono ?_
  rintro e w' ⟨A', m, c', rfl, hm', hb, g, rfl, hg, hs⟩
  have hm1 : m = 1 := by rw [hm']; unfold pieces; omega
  subst hm1
  obtain ⟨A2, c2, q0, q1, q2, q3, q4, -⟩ := hs 0 (by decide)
  have e0 : pcB block 0 = block := by
    unfold pcB
    simp [List.take_of_length_le hm]
  rw [e0] at q3 q4
  exact ⟨g, c', A2, c2, rfl, hb, ⟨q0, by simpa using q1, q2, q3⟩, q4⟩
end Go.Proofs.YtbgnggkgmeagkaaGreatDoor
namespace Go.Proofs.YtbgnggkgmeagkaaGreatDoor
open Go.RowKit
def markW (w : World) (g : Nat) : World := match w.shape? g with | some (_, n) => w.freeze ⟨g, n, none⟩ 1 | none => w
theorem conv_mark (g n c : Nat) (w : World) : (convert 23 23 (.slice (some ⟨g, 0, none⟩) n c)).run Tryz.prog w = .ok (.slice (some ⟨g, 0, none⟩) n c) (markW w g) := by
  have h1 := run_underlying (w := w) Tryz.underlying23
  have h2 := run_underlying (w := w) Tryz.underlying5
  unfold markW
  cases h : w.shape? g with
  | none => simp [convert, h1, h2, markStringish, h]
  | some p =>
    obtain ⟨t, k⟩ := p
    simp [convert, h1, h2, markStringish, h]
theorem markW_size (w : World) (g : Nat) : (markW w g).heap.size = w.heap.size := by
  unfold markW
  split
  · unfold World.freeze
    rw [if_neg (by decide)]
    simp
  · rfl
theorem markW_heap (w : World) (g k : Nat) (h : k ≠ g) : (markW w g).heap[k]? = w.heap[k]? := by
  unfold markW
  split
  · unfold World.freeze
    rw [if_neg (by decide)]
    show (w.heap.modify g _)[k]? = _
    rw [Array.getElem?_modify, if_neg (Ne.symm h)]
  · rfl
theorem markW_cell (w : World) (g : Nat) (a : Addr) : (markW w g).cell? a = w.cell? a := by
  by_cases e : a.block = g
  · unfold markW
    split
    · unfold World.freeze
      rw [if_neg (by decide)]
      unfold World.cell?
      show (match (w.heap.modify g _)[a.block]? with | some (.cells c _ _) => _ | _ => _) = _
      rw [Array.getElem?_modify, if_pos e.symm]
      cases h : w.heap[a.block]? with
      | none => rfl
      | some o => cases o <;> rfl
    · rfl
  · exact World.cell?_of_block (w := w) (markW_heap w g a.block e)
theorem Below.mark {B : Nat} {a w : World} (h : Below B a w) {g : Nat} (hg : B ≤ g) : Below B a (markW w g) := by
  refine h.trans ⟨?_, ?_, ?_, Nat.le_of_eq (markW_size w g).symm, fun k hk => markW_heap w g k (by omega)⟩
  all_goals
    unfold markW
    split
    · unfold World.freeze
      rw [if_neg (by decide)]
    · rfl
def Kc (W W' : World) : Prop := W.heap.size ≤ W'.heap.size ∧ ∀ p : Addr, p.block < W.heap.size → W'.cell? p = W.cell? p
theorem Kc.refl (W : World) : Kc W W := ⟨Nat.le_refl _, fun _ _ => rfl⟩
theorem Kc.alloc {A W : World} (h : Kc A W) (o : Obj) : Kc A (W.alloc o) := ⟨by rw [World.size_alloc]; exact Nat.le_succ_of_le h.1, fun p hp => (World.cell?_alloc_lt W o p (Nat.lt_of_lt_of_le hp h.1)).trans (h.2 p hp)⟩
theorem Kc.mark {A W : World} (h : Kc A W) (g : Nat) : Kc A (markW W g) := ⟨by rw [markW_size]; exact h.1, fun p hp => (markW_cell W g p).trans (h.2 p hp)⟩
theorem Kc.drew {A W : World} (h : Kc A W) : Kc A W.drew := h
theorem Kc.below {A W W' : World} (h : Kc A W) (hb : Below W.heap.size W W') : Kc A W' := ⟨Nat.le_trans h.1 hb.size, fun p hp => (hb.cell (Nat.lt_of_lt_of_le hp h.1)).trans (h.2 p hp)⟩
theorem Kc.reads {A W : World} (h : Kc A W) {size n : Nat} {ad : Option Addr} {xs : List Value} (hr : Reads A A.heap.size size ad n xs) : Reads W W.heap.size size ad n xs := (hr.keep h.2).more h.1
/-- The two bytes of a line's end, in a block of their own. -/
def Lit (W : World) (x : Nat) : Prop := Reads W W.heap.size 1 (some ⟨x, 0, none⟩) 2 (bs [13, 10])
theorem Lit.kept {A W : World} {x : Nat} (h : Lit A x) (k : Kc A W) : Lit W x := k.reads h
theorem lit_new {W : World} {x : Nat} (e : x = W.heap.size) : Lit (W.alloc (.cells #[.int .u8 13, .int .u8 10] 5)) x := by
  subst e
  exact (Blk.new W 5 #[.int .u8 13, .int .u8 10]).reads_ rfl
theorem Lit.alloc {W : World} {x : Nat} (h : Lit W x) (o : Obj) : Lit (W.alloc o) x := h.kept ((Kc.refl W).alloc o)
theorem Lit.mark {W : World} {x : Nat} (h : Lit W x) (g : Nat) : Lit (markW W g) x := h.kept ((Kc.refl W).mark g)
theorem Lit.drew {W : World} {x : Nat} (h : Lit W x) : Lit W.drew x := h
theorem Lit.below {W W' : World} {x : Nat} (h : Lit W x) (hb : Below W.heap.size W W') : Lit W' x := h.kept ((Kc.refl W).below hb)
end Go.Proofs.YtbgnggkgmeagkaaGreatDoor
namespace Go.Proofs.YtbgnggkgmeagkaaGreatDoor
open Go.RowKit
theorem cnt_set : ∀ (l : List Bool) (i : Nat), l[i]? = some false → (l.set i true).countP (fun b => !b) + 1 = l.countP (fun b => !b)
  | [], i, h => by simp at h
  | b :: l, 0, h => by
    simp at h
    subst h
    simp
  | b :: l, i + 1, h => by
    have h1 := cnt_set l i (by simpa using h)
    cases b
    · simp at h1 ⊢
      omega
    · simp at h1 ⊢
      omega
theorem wpAnyIn_dag {F : Fence} {n : Nat} {P : Program} {ops : Array Oper} {Q : Exit → Act → World → Prop} {md : Region.Mode} (Inv : Array Bool → Act → World → Prop)
    (hend : ∀ listed a w, Inv listed a w → Region.ready md ops listed = [] → Q .normal a w)
    (hstep : ∀ listed a w i, Inv listed a w → i ∈ Region.ready md ops listed → wpOpIn F n P ops Q i (Inv (listed.setIfInBounds i true)) a w) :
    ∀ (fuel : Nat) (listed : Array Bool) (a : Act) (w : World), listed.toList.countP (fun b => !b) ≤ fuel → Inv listed a w → wpAnyIn F n P md ops Q fuel listed a w := by
  intro fuel
  induction fuel with
  | zero =>
    intro listed a w hc hI
    have hr : Region.ready md ops listed = [] := by
      cases hr : Region.ready md ops listed with
      | nil => rfl
      | cons j r =>
        exfalso
        have hj : j ∈ Region.ready md ops listed := by rw [hr]; simp
        have h1 := (mem_ready.1 hj).1
        have h2 : listed.toList[j]? = some false := by
          rw [Array.getElem?_toList]
          rw [Array.getD_eq_getD_getElem?] at h1
          cases h3 : listed[j]? with
          | none => rw [h3] at h1; cases h1
          | some b => rw [h3] at h1; simpa using h1
        have := cnt_set listed.toList j h2
        omega
    exact ⟨hr, hend listed a w hI hr⟩
  | succ fuel ih =>
    intro listed a w hc hI
    refine ⟨fun hr => hend listed a w hI hr, fun i hi => wpOpIn_mono (fun a' w' hI' => ih _ a' w' ?_ hI') (hstep listed a w i hI hi)⟩
    have h1 := (mem_ready.1 hi).1
    have h2 : listed.toList[i]? = some false := by
      rw [Array.getElem?_toList]
      rw [Array.getD_eq_getD_getElem?] at h1
      cases h3 : listed[i]? with
      | none => rw [h3] at h1; cases h1
      | some b => rw [h3] at h1; simpa using h1
    have := cnt_set listed.toList i h2
    rw [Array.toList_setIfInBounds]
    omega
theorem region_dag {F : Fence} {n : Nat} {P : Program} {id : Nat} {ops : Array Oper} {Q : Exit → Act → World → Prop} {a : Act} {w : World} (hm : P.follows .mixedOrders = true) (Fin : Act → World → Prop) (Inv : Array Bool → Act → World → Prop)
    (hfin : ∀ a w, Fin a w → Q .normal a w) (hi : Inv (Array.replicate ops.size false) a w.drew)
    (hend : ∀ listed a w, Inv listed a w → Region.ready .any ops listed = [] → Fin a w)
    (hstep : ∀ listed a w i, Inv listed a w → i ∈ Region.ready .any ops listed → wpOpIn F n P ops Q i (Inv (listed.setIfInBounds i true)) a w) :
    (Code.region id ops true).wpIn F n P Q a w :=
  wpIn_region_any hm (wpAnyIn_dag Inv (fun l a w h hr => hfin a w (hend l a w h hr)) hstep _ _ _ _ (by simpa using (List.countP_le_length (p := fun b => !b) (l := List.replicate ops.size false))) hi)
theorem wpAny_dag {P : Program} {ops : Array Oper} {Q : Exit → Act → World → Prop} {md : Region.Mode} (Inv : Array Bool → Act → World → Prop)
    (hend : ∀ listed a w, Inv listed a w → Region.ready md ops listed = [] → Q .normal a w)
    (hstep : ∀ listed a w i, Inv listed a w → i ∈ Region.ready md ops listed → wpOp P ops Q i (Inv (listed.setIfInBounds i true)) a w) :
    ∀ (fuel : Nat) (listed : Array Bool) (a : Act) (w : World), listed.toList.countP (fun b => !b) ≤ fuel → Inv listed a w → wpAny P md ops Q fuel listed a w := by
  intro fuel
  induction fuel with
  | zero =>
    intro listed a w hc hI
    have hr : Region.ready md ops listed = [] := by
      cases hr : Region.ready md ops listed with
      | nil => rfl
      | cons j r =>
        exfalso
        have hj : j ∈ Region.ready md ops listed := by rw [hr]; simp
        have h1 := (mem_ready.1 hj).1
        have h2 : listed.toList[j]? = some false := by
          rw [Array.getElem?_toList]
          rw [Array.getD_eq_getD_getElem?] at h1
          cases h3 : listed[j]? with
          | none => rw [h3] at h1; cases h1
          | some b => rw [h3] at h1; simpa using h1
        have := cnt_set listed.toList j h2
        omega
    exact ⟨hr, hend listed a w hI hr⟩
  | succ fuel ih =>
    intro listed a w hc hI
    refine ⟨fun hr => hend listed a w hI hr, fun i hi => wpOp_mono (fun a' w' hI' => ih _ a' w' ?_ hI') (hstep listed a w i hI hi)⟩
    have h1 := (mem_ready.1 hi).1
    have h2 : listed.toList[i]? = some false := by
      rw [Array.getElem?_toList]
      rw [Array.getD_eq_getD_getElem?] at h1
      cases h3 : listed[i]? with
      | none => rw [h3] at h1; cases h1
      | some b => rw [h3] at h1; simpa using h1
    have := cnt_set listed.toList i h2
    rw [Array.toList_setIfInBounds]
    omega
theorem wpOp_step1 {P : Program} {ops : Array Oper} {Q : Exit → Act → World → Prop} {i : Nat} {o : Oper} {K : Act → World → Prop} {a : Act} {w : World} (ho : ops[i]? = some o) (hw : Region.wanted o (yielded ops a.tmps) = true)
    (h : ∀ K' : Act → World → Prop, (∀ a w, K a w → K' a w) → Oper.wp P o a w K' Q) : wpOp P ops Q i K a w := by
  unfold wpOp
  rw [ho]
  show (if _ then _ else _)
  rw [if_pos hw]
  exact .inl (h K fun _ _ hh => hh)
theorem region_dagP {P : Program} {id : Nat} {ops : Array Oper} {Q : Exit → Act → World → Prop} {a : Act} {w : World} (hm : P.follows .mixedOrders = true) (Fin : Act → World → Prop) (Inv : Array Bool → Act → World → Prop)
    (hfin : ∀ a w, Fin a w → Q .normal a w) (hi : Inv (Array.replicate ops.size false) a w.drew)
    (hend : ∀ listed a w, Inv listed a w → Region.ready .any ops listed = [] → Fin a w)
    (hstep : ∀ listed a w i, Inv listed a w → i ∈ Region.ready .any ops listed → wpOp P ops Q i (Inv (listed.setIfInBounds i true)) a w) :
    (Code.region id ops true).wp P Q a w :=
  wp_region_any hm (wpAny_dag Inv (fun l a w h hr => hfin a w (hend l a w h hr)) hstep _ _ _ _ (by simpa using (List.countP_le_length (p := fun b => !b) (l := List.replicate ops.size false))) hi)
/-- 'append' by its run, in a region. -/
theorem wp_append_run {P : Program} {o : Oper} {a : Act} {K : Act → World → Prop} {Q : Exit → Act → World → Prop} {w : World} (s x : Operand) (t u : TypeId)
    (ho : o.op = .call { callee := .builtin .append, args := #[s, x], argTypes := #[t, u] }) (v0 x0 : Value) (hs : a.eval s = v0) (hx : a.eval x = x0) (v' : Value) (w' : World)
    (hrun : (Builtin.append_ #[t, u] o.type #[v0, x0]).run P w = .ok v' w') (h : K (a.put o.dst v') w') : Oper.wp P o a w K Q := by
  unfold Oper.wp execOp
  simp only [ho, resolve, invoke, builtin, Sem.run_bind, Sem.run_pure, Result.andThen_ok, List.map_toArray, List.map_cons, List.map_nil, hs, hx, hrun]
  exact h
/-- What one round of chunk.Encode has in hand, in whatever order it came to it. -/
structure EncSt (W w : World) (ad : Addr) (piece : Value) (b0 b1 b2 b3 b4 b5 b6 b7 b8 : Bool) (x25 x26 x27 x28 x29 x30 x31 x32 x33 : Value) : Prop where
  bw : Below W.heap.size W w
  kc : Kc W w
  f0 : b0 = true → x25 = .slice none 0 0
  f1 : b1 = true → x26 = piece
  f2 : b2 = true → x27 = .int .i64 4
  f3 : b3 = true → ∃ A c, x28 = .slice A 1 c ∧ Reads w w.heap.size 1 A 1 (bs [52])
  f4 : b4 = true → ∃ g, x29 = .slice (some ⟨g, 0, none⟩) 2 2 ∧ W.heap.size ≤ g ∧ Lit w g
  f5 : b5 = true → ∃ g, x30 = .slice (some ⟨g, 0, none⟩) 2 2 ∧ W.heap.size ≤ g ∧ Lit w g
  f6 : b6 = true → x31 = piece
  f7 : b7 = true → ∃ g, x32 = .slice (some ⟨g, 0, none⟩) 2 2 ∧ W.heap.size ≤ g ∧ Lit w g
  cl : (b2 = true → b1 = true) ∧ (b3 = true → b2 = true) ∧ (b5 = true → b4 = true) ∧ (b8 = true → b7 = true)
  f8 : b8 = true → ∃ g, x33 = .slice (some ⟨g, 0, none⟩) 2 2 ∧ W.heap.size ≤ g ∧ Lit w g
theorem EncSt.next {W w w' : World} {ad : Addr} {piece : Value} {b0 b1 b2 b3 b4 b5 b6 b7 b8 : Bool} {x25 x26 x27 x28 x29 x30 x31 x32 x33 : Value} (h : EncSt W w ad piece b0 b1 b2 b3 b4 b5 b6 b7 b8 x25 x26 x27 x28 x29 x30 x31 x32 x33) (hb : Below W.heap.size W w') (k : Kc w w') :
    EncSt W w' ad piece b0 b1 b2 b3 b4 b5 b6 b7 b8 x25 x26 x27 x28 x29 x30 x31 x32 x33 :=
  ⟨hb, ⟨Nat.le_trans h.kc.1 k.1, fun p hp => (k.2 p (Nat.lt_of_lt_of_le hp h.kc.1)).trans (h.kc.2 p hp)⟩, h.f0, h.f1, h.f2,
    fun hh => by obtain ⟨A, c, e, hr⟩ := h.f3 hh; exact ⟨A, c, e, k.reads hr⟩,
    fun hh => by obtain ⟨g, e, hg, hl⟩ := h.f4 hh; exact ⟨g, e, hg, hl.kept k⟩,
    fun hh => by obtain ⟨g, e, hg, hl⟩ := h.f5 hh; exact ⟨g, e, hg, hl.kept k⟩, h.f6,
    fun hh => by obtain ⟨g, e, hg, hl⟩ := h.f7 hh; exact ⟨g, e, hg, hl.kept k⟩, h.cl,
    fun hh => by obtain ⟨g, e, hg, hl⟩ := h.f8 hh; exact ⟨g, e, hg, hl.kept k⟩⟩
end Go.Proofs.YtbgnggkgmeagkaaGreatDoor
namespace Go.Proofs.YtbgnggkgmeagkaaGreatDoor
open Go.RowKit
set_option maxRecDepth 100000 in
set_option maxHeartbeats 1000000 in
theorem st_say_head (w : World) : Calls Tryz.prog 281 #[.int .i64 2, .int .i64 1, .bool false] w fun e w' => e = .returned (.tuple #[.int .i64 2, .nilIface]) ∧ w' = w := by
  go_enter Tryz.func281, Tryz.ntmps281
  go_wp2
  go_ret2
  exact ⟨rfl, rfl⟩
set_option maxRecDepth 100000 in
set_option maxHeartbeats 1000000 in
theorem st_say_data (w : World) : Calls Tryz.prog 281 #[.int .i64 2, .int .i64 0, .bool true] w fun e w' => e = .returned (.tuple #[.int .i64 4, .nilIface]) ∧ w' = w := by
  go_enter Tryz.func281, Tryz.ntmps281
  go_wp2
  go_ret2
  exact ⟨rfl, rfl⟩
end Go.Proofs.YtbgnggkgmeagkaaGreatDoor
namespace Go.Proofs.YtbgnggkgmeagkaaGreatDoor
open Go.RowKit
/-- The part at a place. -/
def nthA : List Atom → Nat → Atom
  | a :: _, 0 => a
  | _ :: l, n + 1 => nthA l n
  | [], _ => ⟨fun _ => False, fun _ => True, fun _ _ _ _ _ _ h => h⟩
theorem nthA_get : ∀ (L : List Atom) (i : Nat), i < L.length → L[i]? = some (nthA L i)
  | [], _, h => by simp at h
  | _ :: _, 0, _ => rfl
  | _ :: l, n + 1, h => by
    rw [List.getElem?_cons_succ]
    exact nthA_get l n (by simpa using h)
theorem Sep.ordN {w : World} {L : List Atom} (h : Sep w L) (n : Nat) (p : List Nat) (hl : (L.take n).length = n) (hp : (decide p.Nodup && p.all (· < n)) = true) : Sep w (p.map (nthA L) ++ L.drop n) := by
  simp only [Bool.and_eq_true, decide_eq_true_eq, List.all_eq_true] at hp
  obtain ⟨hn, hb⟩ := hp
  have hlen : n ≤ L.length := by rw [← hl]; simp; omega
  have hget : ∀ i, i ∈ p → L[i]? = some (nthA L i) := fun i hi => nthA_get L i (Nat.lt_of_lt_of_le (hb i hi) hlen)
  refine ⟨fun a ha => ?_, List.pairwise_append.2 ⟨?_, h.apart.sublist (List.drop_sublist n L), ?_⟩⟩
  · rcases List.mem_append.1 ha with ha | ha
    · obtain ⟨i, hi, rfl⟩ := List.mem_map.1 ha
      exact h.all _ (List.mem_of_getElem? (hget i hi))
    · exact h.all a ((List.drop_sublist n L).subset ha)
  · refine List.pairwise_map.2 (List.Pairwise.imp_of_mem (fun {i j} hi hj hij => ?_) hn)
    intro k hk
    exact h.ne hij (hget i hi) (hget j hj) hk
  · intro a ha b hb2 k hk
    obtain ⟨i, hi, rfl⟩ := List.mem_map.1 ha
    obtain ⟨j, hj, rfl⟩ := List.mem_iff_getElem.1 hb2
    rw [List.getElem_drop] at *
    have hi2 := hb i hi
    exact h.ne (i := i) (j := n + j) (by omega) (hget i hi) (List.getElem?_eq_getElem _) hk
end Go.Proofs.YtbgnggkgmeagkaaGreatDoor
namespace Go.Proofs.YtbgnggkgmeagkaaGreatDoor
open Go.ChangeShapes Go.WideShapes Go.ChangeAt Go.RowKit
open Go.ChangeMaps (open_string shut_string)

theorem prog_own : ownKnob Tryz.prog.godebug = none := by kernel_rfl
theorem prog_laidOut : laidOutB Tryz.prog = true := by kernel_rfl
theorem cells_u8 : Tryz.prog.cellsOf 5 = 1 := by kernel_rfl
theorem bytes_u8 : Tryz.prog.bytesOf 5 = 1 := by kernel_rfl

theorem u8_of_wf {z : Int} (h : (Lit.int .u8 z).wf = true) : 0 ≤ z ∧ z ≤ 255 := by
  simp [Lit.wf, IntKind.min, IntKind.max, IntKind.bits, IntKind.signed] at h
  omega

/-- Cells of bytes, as a list of bytes that reads. -/
theorem reads_of_cells {W : World} {x : Addr} {zs : List Int} {n : Nat} (hn : n ≤ zs.length) (hcell : ∀ i, i < zs.length → W.cell? (x.add i) = some (.int .u8 (zs.getD i 0))) (hwz : ∀ n ∈ zs, (Lit.int .u8 n).wf = true) :
    ∃ l : List UInt8, l.length = n ∧ Reads W W.heap.size 1 (some x) n (bs l) := by
  refine ⟨(zs.take n).map (fun z => UInt8.ofNat z.toNat), by simp; omega, ⟨by simp [bs]; omega, fun h0 => ⟨x, rfl, ?_, ?_⟩⟩⟩
  · have h1 := World.block_lt_of_cell? W _ (hcell 0 (by omega))
    simpa [Addr.add] using h1
  · intro j u hu
    have hj : j < (bs ((zs.take n).map (fun z => UInt8.ofNat z.toNat))).length := (List.getElem?_eq_some_iff.1 hu).1
    simp [bs] at hj
    have hz := u8_of_wf (hwz (zs[j]'(by omega)) (List.getElem_mem _))
    rw [hcell j (by omega), ← hu]
    simp only [bs, List.map_map, List.getElem?_map]
    rw [List.getElem?_take, if_pos (by omega), List.getElem?_eq_getElem (by omega)]
    simp only [Option.map_some, Function.comp, UInt8.toNat_ofNat', List.getD_eq_getElem?_getD, List.getElem?_eq_getElem (show j < zs.length by omega), Option.getD_some]
    congr 2
    omega

section
variable {H : Type} {enc : TypeId × Value → H} {W : World} {ts : List TypeId} {ds : List (DataW H)} {base j : Nat} {v : Value} {d : DataW H} {p : List MemPlace}
set_option maxRecDepth 100000 in
/-- A []byte argument. -/
theorem open_bytes (hval : Value.okWide Tryz.prog W .any base 23 v) (h : DataW.Trod enc Tryz.prog W 0 (fun _ => true) true 23 v d p)
    (hsz : (DataW.weightsEach Tryz.prog ts ds).all (· ≤ reachBytes) = true) (ht : ts[j]? = some 23) (hd : ds[j]? = some d) :
    ∃ A l cap, v = .slice A l.length cap ∧ l.length ≤ cap ∧ cap ≤ 140737488351232 ∧ Reads W W.heap.size 1 A l.length (bs l) := by
  obtain ⟨a0, len, cap, rfl⟩ := okWide_slice Tryz.underlying23 hval
  obtain ⟨fuel, hf⟩ := h
  rcases open_ints Tryz.underlying23 Tryz.underlying5 cells_u8 hf with ⟨hcs, _⟩ | ⟨x, l, c, zs, hcs, _, hl, hm, hz, hx, hcell, hwz⟩
  · simp [Value.cells] at hcs
    obtain ⟨rfl, rfl, rfl⟩ := hcs
    exact ⟨none, [], 0, rfl, Nat.le_refl _, Nat.zero_le _, Reads.none_⟩
  · simp [Value.cells] at hcs
    obtain ⟨rfl, rfl, rfl⟩ := hcs
    simp at hz
    obtain ⟨l, hl2, hr⟩ := reads_of_cells (n := len) (by omega) hcell hwz
    simp only [Prod.mk.injEq] at hx
    have hr2 := sized_slice hsz ht (by rw [hd, hx.1]) Tryz.underlying23
    rw [bytes_u8] at hr2
    simp only [lits, List.length_map, List.length_take, List.length_drop, reachBytes] at hr2
    exact ⟨some x, l, cap, by rw [hl2], by omega, by omega, by rw [hl2]; exact hr⟩
set_option maxRecDepth 100000 in
/-- A string argument. -/
theorem open_str (hval : Value.okWide Tryz.prog W .any base 9 v) (h : DataW.Trod enc Tryz.prog W 0 (fun _ => true) true 9 v d p)
    (hsz : (DataW.weightsEach Tryz.prog ts ds).all (· ≤ reachBytes) = true) (ht : ts[j]? = some 9) (hd : ds[j]? = some d) :
    ∃ l : List UInt8, v = .string ⟨l.toArray⟩ ∧ d = .lit (.string l) ∧ p = [] ∧ l.length ≤ 140737488351232 := by
  obtain ⟨s, rfl, rfl, rfl, hs⟩ := open_string Tryz.underlying9 hval h
  have h2 := sized_string hsz ht hd
  simp only [reachBytes] at h2
  exact ⟨s.data.toList, rfl, rfl, rfl, h2⟩
end
end Go.Proofs.YtbgnggkgmeagkaaGreatDoor
namespace Go.Proofs.YtbgnggkgmeagkaaGreatDoor
open Go.ChangeShapes Go.WideShapes Go.ChangeAt Go.RowKit Go.Deep
open Go.ChangeMaps (open_string shut_string)

/-- No number of bytes in a datum is over the reach. -/
def Wok {H : Type} (t : TypeId) (d : DataW H) : Prop := ∀ n ∈ d.weights Tryz.prog t, n ≤ reachBytes
section
variable {H : Type}
theorem wok_arg {ts : List TypeId} {ds : List (DataW H)} {j : Nat} {t : TypeId} {d : DataW H} (hsz : (DataW.weightsEach Tryz.prog ts ds).all (· ≤ reachBytes) = true) (ht : ts[j]? = some t) (hd : ds[j]? = some d) : Wok t d := fun n hn => by
  simpa using List.all_eq_true.1 hsz _ (DataW.weights_mem_each ht hd n hn)
theorem weightsAll_mem {e : TypeId} {d : DataW H} : ∀ {ds : List (DataW H)}, d ∈ ds → ∀ n ∈ d.weights Tryz.prog e, n ∈ DataW.weightsAll Tryz.prog e ds
  | x :: r, h, n, hn => by
    simp only [DataW.weightsAll, List.mem_append]
    rcases List.mem_cons.1 h with rfl | h
    · exact .inl hn
    · exact .inr (weightsAll_mem h n hn)
theorem wok_slice {t e : TypeId} {es sp : List (DataW H)} (h : Wok t (.slice es sp)) (ht : Tryz.prog.underlying t = some (.slice e)) : (es.length + sp.length) * Tryz.prog.bytesOf e ≤ reachBytes ∧ ∀ d ∈ es, Wok e d := by
  refine ⟨h _ (by simp [DataW.weights, ht]), fun d hd n hn => h n ?_⟩
  simp only [DataW.weights, ht, List.mem_cons, List.mem_append]
  exact .inr (.inl (weightsAll_mem hd n hn))
theorem wok_str {t : TypeId} {l : List UInt8} (h : Wok (H := H) t (.lit (.string l))) : l.length ≤ 140737488351232 := by
  have := h l.length (by simp [DataW.weights])
  simpa [reachBytes] using this
theorem wok_two {t : TypeId} {f0 f1 : Field} {a b : DataW H} (h : Wok t (.agg [a, b])) (ht : Tryz.prog.underlying t = some (.struct #[f0, f1])) : Wok f0.type a ∧ Wok f1.type b := by
  constructor
  · intro n hn
    exact h n (by simp [DataW.weights, ht, DataW.weightsEach, hn])
  · intro n hn
    exact h n (by simp [DataW.weights, ht, DataW.weightsEach, hn])
end

section
variable {H : Type} {enc : TypeId × Value → H} {W : World}
theorem str_of_cell {n : Nat} {v : Value} {x : DataW H × List MemPlace} (h : DataW.trod enc Tryz.prog W 0 (fun _ => true) true n 9 [v] = some x) : ∃ l : List UInt8, v = .string ⟨l.toArray⟩ ∧ x.1 = .lit (.string l) := by
  obtain ⟨s, h1, h2, _⟩ := DataW.trod_string Tryz.underlying9 h
  refine ⟨s.data.toList, ?_, by rw [h2]⟩
  injection h1
/-- Cells that read as fields. -/
theorem reads_fields {A : Addr} {l : List Fld} (h : ∀ k (hk : k < l.length), W.cell? (A.add (k * 2)) = some (.string ⟨l[k].1.toArray⟩) ∧ W.cell? (A.add (k * 2 + 1)) = some (.string ⟨l[k].2.toArray⟩)) :
    Reads W W.heap.size 2 (some A) l.length (fvs l) := by
  refine ⟨fvs_length l, fun h0 => ⟨A, rfl, ?_, fun j u hu => ?_⟩⟩
  · have := World.block_lt_of_cell? W _ (h 0 h0).1
    rwa [block_of_add] at this
  · have hj : j < (fvs l).length := (List.getElem?_eq_some_iff.1 hu).1
    rw [fvs_length] at hj
    have hk : j / 2 < l.length := by omega
    obtain ⟨a0, a1⟩ := fvs_at l hk
    obtain ⟨c0, c1⟩ := h _ hk
    rcases (by omega : j = j / 2 * 2 ∨ j = j / 2 * 2 + 1) with e | e
    · rw [e, a0] at hu
      rw [e, c0]
      exact hu
    · rw [e, a1] at hu
      rw [e, c1]
      exact hu
theorem fld_under : Tryz.prog.underlying 22 = some (.slice 41) := Tryz.underlying22
set_option maxRecDepth 100000 in
theorem fields_of_cells {fuel : Nat} {cs : List Value} {x : DataW H × List MemPlace} (hf : DataW.trod enc Tryz.prog W 0 (fun _ => true) true fuel 22 cs = some x) (hw : Wok 22 x.1) :
    ∃ A l c, cs = [.slice A l.length c] ∧ l.length ≤ c ∧ c * 32 ≤ 140737488351232 ∧ (∀ f ∈ l, fOk f) ∧ Reads W W.heap.size 2 A l.length (fvs l) := by
  obtain ⟨f0, f1, he, o0, o1, c0, c1, t0, t1⟩ : ∃ f0 f1 : Field, Tryz.prog.underlying 41 = some (.struct #[f0, f1]) ∧ f0.offset = 0 ∧ f1.offset = 1 ∧ Tryz.prog.cellsOf f0.type = 1 ∧ Tryz.prog.cellsOf f1.type = 1 ∧ f0.type = 9 ∧ f1.type = 9 :=
    ⟨_, _, Tryz.underlying41, rfl, rfl, by kernel_rfl, by kernel_rfl, rfl, rfl⟩
  rcases open_slice_pairs fld_under he (by kernel_rfl) o0 o1 c0 c1 hf with ⟨rfl, _⟩ | ⟨a, len, cap, m, n, V0, V1, D0, D1, P0, P1, rfl, hb, hl, hm, hmm, rfl, hx⟩
  · exact ⟨none, [], 0, rfl, Nat.le_refl _, by omega, by simp, Reads.none_⟩
  · simp only [if_true] at hmm
    subst hmm
    rw [t0, t1] at hx
    obtain ⟨hw1, hw2⟩ := wok_slice hw fld_under
    simp only [List.length_map, List.length_range] at hw1
    rw [show Tryz.prog.bytesOf 41 = 32 by kernel_rfl] at hw1
    have each : ∀ i, i < len → ∃ f : Fld, (V0 i = .string ⟨f.1.toArray⟩ ∧ V1 i = .string ⟨f.2.toArray⟩) ∧ fOk f := by
      intro i hi
      obtain ⟨_, _, h0, h1⟩ := hx i (by omega)
      obtain ⟨l0, e0, d0⟩ := str_of_cell h0
      obtain ⟨l1, e1, d1⟩ := str_of_cell h1
      have := wok_two (hw2 (.agg [D0 i, D1 i]) (List.mem_map.2 ⟨i, List.mem_range.2 hi, rfl⟩)) he
      simp only at d0 d1
      rw [d0, d1, t0, t1] at this
      have l0' := wok_str this.1
      have l1' := wok_str this.2
      exact ⟨(l0, l1), ⟨e0, e1⟩, by simp only; omega, by simp only; omega⟩
    obtain ⟨F, hF⟩ := choose_lt each
    have hlen : ((List.range len).map F).length = len := by simp
    refine ⟨some a, (List.range len).map F, m, by rw [hlen], by omega, ?_, ?_, ?_⟩
    · simp only [reachBytes] at hw1
      have : len + (m - len) = m := by omega
      rw [this] at hw1
      omega
    · intro f hf
      obtain ⟨i, hi, rfl⟩ := List.mem_map.1 hf
      exact (hF i (List.mem_range.1 hi)).2
    · refine reads_fields fun k hk => ?_
      rw [hlen] at hk
      obtain ⟨h0, h1, _, _⟩ := hx k (by omega)
      have := (hF k hk).1
      simp only [List.getElem_map, List.getElem_range]
      rw [h0, h1, this.1, this.2]
      exact ⟨rfl, rfl⟩
set_option maxRecDepth 100000 in
/-- A []api.Field argument. -/
theorem open_fields {ts : List TypeId} {ds : List (DataW H)} {base j : Nat} {v : Value} {d : DataW H} {p : List MemPlace} (hval : Value.okWide Tryz.prog W .any base 22 v) (h : DataW.Trod enc Tryz.prog W 0 (fun _ => true) true 22 v d p)
    (hsz : (DataW.weightsEach Tryz.prog ts ds).all (· ≤ reachBytes) = true) (ht : ts[j]? = some 22) (hd : ds[j]? = some d) :
    ∃ A l c, v = .slice A l.length c ∧ l.length ≤ c ∧ c * 32 ≤ 140737488351232 ∧ (∀ f ∈ l, fOk f) ∧ Reads W W.heap.size 2 A l.length (fvs l) := by
  obtain ⟨a0, len, cap, rfl⟩ := okWide_slice Tryz.underlying22 hval
  obtain ⟨fuel, hf⟩ := h
  obtain ⟨A, l, c, hcs, h1⟩ := fields_of_cells hf (wok_arg hsz ht hd)
  simp [Value.cells] at hcs
  obtain ⟨rfl, rfl, rfl⟩ := hcs
  exact ⟨_, _, _, rfl, h1⟩
end
end Go.Proofs.YtbgnggkgmeagkaaGreatDoor
