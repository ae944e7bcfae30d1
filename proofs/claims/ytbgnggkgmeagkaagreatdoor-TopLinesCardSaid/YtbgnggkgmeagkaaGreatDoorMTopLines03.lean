/-
  Plain law: tables of fields: what lets go, what is added, what is found. Nothing of the program.
  Bytes to a string; the error of a number. No condition.
  Fields in memory; table.Size, table.right, table.New, the table's own small words. Condition: the texts' lengths.
  Slices of bytes that are read: their middle, their head; worlds that differ by draws. No condition.
  Plain law: frames as bytes, and back. Nothing of the program.
  Nothing: the seat of the great laws has no errors.As. No condition.
  Nothing: the seat of the great laws has no errors.As. No condition.
  Numbers in so many bytes: wire.holds, wire.Big, wire.Read and the reference's holds, pow, Big, Word, Read, by their contracts. No condition but the bounds that each names.
  The reference's Big, Word and Read, and wire.Read. No condition but the bounds that each names.
  wire.Read by its contract. No condition.
  Bytes to a string; the uniform contracts of Big. No condition.
  Slices that are handed together: where they lie, how many elements they have in all. Nothing of the program.
-/
import Derived.Test.YtbgnggkgmeagkaaGreatDoorMTopLines01
import Derived.Test.YtbgnggkgmeagkaaGreatDoorMTopLines02
import Derived.Lib.AppendZeros
set_option linter.unusedSimpArgs false
set_option linter.unusedVariables false
namespace Go.Proofs.YtbgnggkgmeagkaaGreatDoor

abbrev Fld := List UInt8 × List UInt8
/-- The size of a field, the weight of fields. -/
def fsz (f : Fld) : Nat := f.1.length + f.2.length + 32
def wt : List Fld → Nat
  | [] => 0
  | f :: l => fsz f + wt l
theorem wt_nil : wt [] = 0 := rfl
theorem wt_cons (f : Fld) (l : List Fld) : wt (f :: l) = fsz f + wt l := rfl
theorem fsz_pos (f : Fld) : 32 ≤ fsz f := by unfold fsz; omega
theorem wt_append (a b : List Fld) : wt (a ++ b) = wt a + wt b := by
  induction a with
  | nil => simp [wt]
  | cons f l ih => simp only [List.cons_append, wt, ih]; omega
theorem wt_take_succ (l : List Fld) (k : Nat) (h : k < l.length) : wt (l.take (k + 1)) = wt (l.take k) + fsz l[k] := by
  rw [List.take_succ_eq_append_getElem h, wt_append]
  simp [wt]
theorem wt_take_le (l : List Fld) (k : Nat) : wt (l.take k) ≤ wt l := by
  have h := wt_append (l.take k) (l.drop k)
  rw [List.take_append_drop] at h
  omega
theorem wt_len (l : List Fld) : 32 * l.length ≤ wt l := by
  induction l with
  | nil => simp [wt]
  | cons f l ih =>
    have := fsz_pos f
    simp only [wt, List.length_cons]
    omega
theorem fsz_le_wt (l : List Fld) (k : Nat) (h : k < l.length) : fsz l[k] ≤ wt l := by
  have h1 := wt_take_succ l k h
  have h2 := wt_take_le l (k + 1)
  omega

/-- How many stay, and what stays: the newest, no more than so much. -/
def shrN (most : Nat) (xs : List Fld) : Nat → Nat
  | 0 => 0
  | n + 1 => if wt (xs.take (n + 1)) ≤ most then n + 1 else shrN most xs n
def shr (most : Nat) (xs : List Fld) : List Fld := xs.take (shrN most xs xs.length)
theorem shrN_zero (most : Nat) (xs : List Fld) : shrN most xs 0 = 0 := rfl
theorem shrN_stay {most : Nat} {xs : List Fld} {n : Nat} (h : wt (xs.take n) ≤ most) : shrN most xs n = n := by
  cases n with
  | zero => rfl
  | succ n => simp [shrN, h]
theorem shrN_go {most : Nat} {xs : List Fld} {n : Nat} (h : ¬ wt (xs.take (n + 1)) ≤ most) : shrN most xs (n + 1) = shrN most xs n := by simp [shrN, h]
theorem shrN_le (most : Nat) (xs : List Fld) (n : Nat) : shrN most xs n ≤ n := by
  induction n with
  | zero => simp [shrN]
  | succ n ih =>
    unfold shrN
    split <;> omega
theorem shrN_wt (most : Nat) (xs : List Fld) (n : Nat) : wt (xs.take (shrN most xs n)) ≤ most := by
  induction n with
  | zero => simp [shrN, wt]
  | succ n ih =>
    unfold shrN
    split
    · assumption
    · exact ih
theorem wt_shr (most : Nat) (xs : List Fld) : wt (shr most xs) ≤ most := shrN_wt most xs xs.length
theorem shr_of_le {most : Nat} {xs : List Fld} (h : wt xs ≤ most) : shr most xs = xs := by
  unfold shr
  rw [shrN_stay (by rw [List.take_of_length_le (Nat.le_refl _)]; exact h), List.take_of_length_le (Nat.le_refl _)]
theorem shr_zero (xs : List Fld) : shr 0 xs = [] := by
  have h := wt_shr 0 xs
  have h2 := wt_len (shr 0 xs)
  exact List.eq_nil_of_length_eq_zero (by omega)
theorem shr_len (most : Nat) (xs : List Fld) : (shr most xs).length ≤ xs.length := by
  unfold shr
  rw [List.length_take]
  omega

/-- What lies in a table behind an add. -/
def tAdd (max : Nat) (xs : List Fld) (f : Fld) : List Fld := if max < fsz f then [] else f :: shr (max - fsz f) xs
theorem tAdd_no {max : Nat} {xs : List Fld} {f : Fld} (h : max < fsz f) : tAdd max xs f = [] := by rw [tAdd, if_pos h]
theorem tAdd_yes {max : Nat} {xs : List Fld} {f : Fld} (h : ¬ max < fsz f) : tAdd max xs f = f :: shr (max - fsz f) xs := by rw [tAdd, if_neg h]
theorem wt_tAdd (max : Nat) (xs : List Fld) (f : Fld) : wt (tAdd max xs f) ≤ max := by
  unfold tAdd
  split
  · simp [wt]
  · have := wt_shr (max - fsz f) xs
    simp only [wt]
    omega

/-- The fields that have numbers from the beginning on. -/
def alw : List Fld := [([58, 109, 101, 116, 104, 111, 100], [71, 69, 84]), ([58, 109, 101, 116, 104, 111, 100], [80, 79, 83, 84]), ([58, 112, 97, 116, 104], [47]), ([58, 104, 111, 115, 116], []), ([58, 99, 111, 100, 101], [50, 48, 48]), ([58, 99, 111, 100, 101], [52, 48, 52]), ([108, 101, 110, 103, 116, 104], []), ([116, 121, 112, 101], [116, 101, 120, 116]), ([99, 111, 111, 107, 105, 101], []), ([97, 99, 99, 101, 112, 116], [42]), ([100, 97, 116, 101], []), ([115, 101, 114, 118, 101, 114], [])]
theorem alw_len : alw.length = 12 := rfl
def tAll (xs : List Fld) : List Fld := alw ++ xs
theorem tAll_len (xs : List Fld) : (tAll xs).length = 12 + xs.length := by simp [tAll, alw_len]

/-- The number of the first that is so; 0: there is none. -/
def fnd (p : Fld → Bool) : List Fld → Nat
  | [] => 0
  | f :: l => if p f then 1 else if fnd p l = 0 then 0 else fnd p l + 1
theorem fnd_le (p : Fld → Bool) (l : List Fld) : fnd p l ≤ l.length := by
  induction l with
  | nil => simp [fnd]
  | cons f l ih =>
    simp only [fnd, List.length_cons]
    split
    · omega
    · split <;> omega
theorem fnd_snoc (p : Fld → Bool) (l : List Fld) (x : Fld) : fnd p (l ++ [x]) = if fnd p l ≠ 0 then fnd p l else if p x then l.length + 1 else 0 := by
  induction l with
  | nil => simp [fnd]
  | cons f l ih =>
    simp only [List.cons_append, fnd, ih, List.length_cons]
    by_cases h : p f = true
    · simp [h]
    · by_cases h2 : fnd p l = 0
      · by_cases h3 : p x = true
        · simp [h, h2, h3]
        · simp [h, h2, h3]
      · simp [h, h2]
theorem fnd_take_succ (p : Fld → Bool) (l : List Fld) (k : Nat) (h : k < l.length) : fnd p (l.take (k + 1)) = if fnd p (l.take k) ≠ 0 then fnd p (l.take k) else if p l[k] then k + 1 else 0 := by
  rw [List.take_succ_eq_append_getElem h, fnd_snoc, List.length_take, Nat.min_eq_left (by omega)]
/-- From the place i on, by its number in the whole. -/
def bnd (p : Fld → Bool) (l : List Fld) (i : Nat) : Nat := if fnd p (l.drop i) = 0 then 0 else fnd p (l.drop i) + i
theorem bnd_zero (p : Fld → Bool) (l : List Fld) : bnd p l 0 = fnd p l := by
  unfold bnd
  rw [List.drop_zero]
  split <;> omega
theorem bnd_end (p : Fld → Bool) (l : List Fld) : bnd p l l.length = 0 := by simp [bnd, fnd]
theorem fnd_hit {p : Fld → Bool} {f : Fld} (l : List Fld) (h : p f = true) : fnd p (f :: l) = 1 := by simp [fnd, h]
theorem fnd_none {p : Fld → Bool} {f : Fld} {l : List Fld} (h : ¬ p f = true) (h2 : fnd p l = 0) : fnd p (f :: l) = 0 := by simp [fnd, h, h2]
theorem fnd_later {p : Fld → Bool} {f : Fld} {l : List Fld} (h : ¬ p f = true) (h2 : fnd p l ≠ 0) : fnd p (f :: l) = fnd p l + 1 := by simp [fnd, h, h2]
theorem bnd_at (p : Fld → Bool) (l : List Fld) (i : Nat) (h : i < l.length) : bnd p l i = if p l[i] then i + 1 else bnd p l (i + 1) := by
  unfold bnd
  rw [List.drop_eq_getElem_cons h]
  by_cases h1 : p l[i] = true
  · rw [fnd_hit _ h1]
    simp [h1]
    omega
  · by_cases h2 : fnd p (l.drop (i + 1)) = 0
    · rw [fnd_none h1 h2]
      simp [h1, h2]
    · rw [fnd_later h1 h2]
      simp [h1, h2]
      omega
theorem fnd_some {p : Fld → Bool} {l : List Fld} (h : fnd p l ≠ 0) : ∃ hk : fnd p l - 1 < l.length, p l[fnd p l - 1] = true := by
  induction l with
  | nil => simp [fnd] at h
  | cons f l ih =>
    simp only [fnd] at h ⊢
    by_cases h1 : p f = true
    · simp [h1]
    · by_cases h2 : fnd p l = 0
      · simp [h1, h2] at h
      · obtain ⟨hk, hp⟩ := ih h2
        simp only [h1, h2, if_false, List.length_cons, Bool.false_eq_true]
        refine ⟨by omega, ?_⟩
        have e : fnd p l + 1 - 1 = (fnd p l - 1) + 1 := by omega
        simp only [e, List.getElem_cons_succ]
        exact hp
theorem fnd_least {p : Fld → Bool} {l : List Fld} {k : Nat} (hk : k < l.length) (hp : p l[k] = true) : 1 ≤ fnd p l ∧ fnd p l ≤ k + 1 := by
  induction l generalizing k with
  | nil => simp at hk
  | cons f l ih =>
    simp only [fnd]
    by_cases h1 : p f = true
    · simp [h1]
    · cases k with
      | zero => exact absurd hp h1
      | succ k =>
        obtain ⟨a, b⟩ := ih (k := k) (by simpa using hk) (by simpa using hp)
        rw [if_neg h1, if_neg (by omega)]
        omega
theorem fnd_le_of {p q : Fld → Bool} {l : List Fld} (h : ∀ f, p f = true → q f = true) (h0 : fnd p l ≠ 0) : 1 ≤ fnd q l ∧ fnd q l ≤ fnd p l := by
  obtain ⟨hk, hp⟩ := fnd_some h0
  have := fnd_least hk (h _ hp)
  omega
/-- A field, and its name. -/
def isF (f : Fld) : Fld → Bool := fun x => decide (x = f)
def isN (f : Fld) : Fld → Bool := fun x => decide (x.1 = f.1)
end Go.Proofs.YtbgnggkgmeagkaaGreatDoor
namespace Go.Proofs.YtbgnggkgmeagkaaGreatDoor
open Go.RowKit

/-- The error of a number: nil for 0. -/
def errV (k : Nat) : Value := if k = 0 then .nilIface else .iface 95 (.int .i64 (k : Int))
theorem errV_zero : errV 0 = .nilIface := rfl
theorem errV_pos {k : Nat} (h : k ≠ 0) : errV k = .iface 95 (.int .i64 (k : Int)) := by simp [errV, h]
/-- 'string(b)' where b reads as l. -/
theorem run_str {w : World} {B : Nat} {A : Option Addr} {l : List UInt8} (hr : Reads w B 1 A l.length (bs l)) (c : Nat) :
    (convert 23 9 (.slice A l.length c)).run Tryz.prog w = .ok (.string ⟨l.toArray⟩) w := by
  rcases A with _ | a
  · have h0 : l.length = 0 := by
      rcases Nat.eq_zero_or_pos l.length with h | h
      · exact h
      · obtain ⟨ad, e, _⟩ := hr.2 h
        cases e
    have hl : l = [] := List.eq_nil_of_length_eq_zero h0
    subst hl
    rw [run_convert_bytes_string w 23 9 5 none _ c Tryz.underlying23 Tryz.underlying5 Tryz.underlying9]
    rfl
  · refine run_convert_bytes_back w 23 9 5 a c l Tryz.underlying23 Tryz.underlying5 Tryz.underlying9 (fun j hj => ?_)
    obtain ⟨ad, e, _, hc⟩ := hr.2 (by omega)
    injection e with e
    subst e
    exact hc j _ (bs_at l hj)
/-- What a call hands back: bytes that read as l, new. -/
def Gave (w w' : World) (l : List UInt8) (A : Option Addr) (c : Nat) : Prop := l.length ≤ c ∧ Reads w' w'.heap.size 1 A l.length (bs l) ∧ Below w.heap.size w w'
theorem gave_of_own {w w' : World} {v : Value} {l : List UInt8} (h : w'.ownsRow w.heap.size 5 1 v l.length (bs l)) (hb : Below w.heap.size w w') :
    ∃ A c, v = .slice A l.length c ∧ Gave w w' l A c := by
  obtain ⟨A, c, rfl, hc, hr⟩ := isBytes_of_own h
  exact ⟨A, c, rfl, hc, hr, hb⟩
theorem gave_nil (w : World) : Gave w w [] none 0 := ⟨Nat.le_refl _, Reads.none_, Below.refl _ _⟩
end Go.Proofs.YtbgnggkgmeagkaaGreatDoor
namespace Go.Proofs.YtbgnggkgmeagkaaGreatDoor
open Go.RowKit

def sv (l : List UInt8) : Value := .string ⟨l.toArray⟩
/-- A field as cells, as a value. -/
def fv (f : Fld) : List Value := [.string ⟨f.1.toArray⟩, .string ⟨f.2.toArray⟩]
def fA (f : Fld) : Value := .agg #[.string ⟨f.1.toArray⟩, .string ⟨f.2.toArray⟩]
def fvs (l : List Fld) : List Value := l.flatMap fv
theorem fvs_nil : fvs [] = [] := rfl
theorem fvs_cons (f : Fld) (l : List Fld) : fvs (f :: l) = fv f ++ fvs l := rfl
theorem fvs_append (a b : List Fld) : fvs (a ++ b) = fvs a ++ fvs b := by simp [fvs]
theorem fvs_length (l : List Fld) : (fvs l).length = l.length * 2 := by
  induction l with
  | nil => rfl
  | cons f l ih =>
    rw [fvs_cons, List.length_append, ih]
    simp [fv]
    omega
theorem fvs_take (l : List Fld) (k : Nat) : (fvs l).take (k * 2) = fvs (l.take k) := by
  induction l generalizing k with
  | nil => simp [fvs]
  | cons f l ih =>
    cases k with
    | zero => simp [fvs]
    | succ k =>
      rw [fvs_cons, List.take_succ_cons, fvs_cons, ← ih k]
      simp [fv, Nat.add_mul]
theorem fvs_one (l : List Fld) : ∀ u ∈ fvs l, u.oneCell' = true := by
  intro u hu
  obtain ⟨f, _, hf⟩ := List.mem_flatMap.1 hu
  simp only [fv, List.mem_cons, List.not_mem_nil, or_false] at hf
  rcases hf with rfl | rfl <;> rfl
theorem fvs_at (l : List Fld) : ∀ {k : Nat} (_ : k < l.length), (fvs l)[k * 2]? = some (.string ⟨l[k].1.toArray⟩) ∧ (fvs l)[k * 2 + 1]? = some (.string ⟨l[k].2.toArray⟩) := by
  induction l with
  | nil => intro k h; simp at h
  | cons f l ih =>
    intro k h
    cases k with
    | zero => exact ⟨rfl, rfl⟩
    | succ k =>
      have := ih (k := k) (by simpa using h)
      have e1 : (fvs (f :: l))[(k + 1) * 2]? = (fvs l)[k * 2]? := by
        rw [fvs_cons, show (k + 1) * 2 = k * 2 + 1 + 1 by omega]
        simp [fv]
      have e2 : (fvs (f :: l))[(k + 1) * 2 + 1]? = (fvs l)[k * 2 + 1]? := by
        rw [fvs_cons, show (k + 1) * 2 + 1 = k * 2 + 1 + 1 + 1 by omega]
        simp [fv]
      rw [e1, e2]
      simpa using this
/-- Fields that are read: the address written out, the cells of each. -/
theorem reads_fld {w : World} {B : Nat} {A : Option Addr} {l : List Fld} (h : Reads w B 2 A l.length (fvs l)) (h0 : 0 < l.length) :
    ∃ b off, A = some ⟨b, off, none⟩ ∧ b < B ∧ ∀ k (hk : k < l.length), w.cell? ⟨b, off + k * 2, none⟩ = some (.string ⟨l[k].1.toArray⟩) ∧ w.cell? ⟨b, off + k * 2 + 1, none⟩ = some (.string ⟨l[k].2.toArray⟩) := by
  obtain ⟨ad, e, hb, hc⟩ := h.2 h0
  obtain ⟨b, off, spot⟩ := ad
  have h1 := hc _ _ (fvs_at l h0).1
  have hspot : spot = none := by simpa [Addr.add] using World.cell?_spot h1
  subst hspot
  refine ⟨b, off, e, hb, fun k hk => ?_⟩
  have h2 := hc _ _ (fvs_at l hk).1
  have h3 := hc _ _ (fvs_at l hk).2
  rw [Addr.add_lit] at h2 h3
  rw [← Nat.add_assoc] at h3
  exact ⟨h2, h3⟩

/-- What a field's texts may be long. -/
def fOk (f : Fld) : Prop := f.1.length ≤ 140737488355328 ∧ f.2.length ≤ 140737488355328

set_option maxHeartbeats 1000000 in
theorem size_any (f : Fld) (hf : fOk f) (w : World) :
    Calls Tryz.prog 91 #[.agg #[.string ⟨f.1.toArray⟩, .string ⟨f.2.toArray⟩]] w fun e w' => e = .returned (.int .i64 (fsz f : Nat)) ∧ Below w.heap.size w w' := by
  obtain ⟨h1, h2⟩ := hf
  go_enter Tryz.func91, Tryz.ntmps91
  go_wp2
  go_ret
  refine ⟨?_, (Below.refl _ _).alloc (Nat.le_refl _) _⟩
  simp [fsz]

theorem fld_info : (Tryz.prog.info? 41).map (fun i => (i.zero, i.size, i.bytes)) = some (some (.agg #[.string ⟨#[]⟩, .string ⟨#[]⟩]), 2, 32) := by kernel_rfl

set_option maxRecDepth 100000 in
set_option maxHeartbeats 1000000 in
theorem always_any (w : World) :
    Calls Tryz.prog 89 #[] w fun e w' => e = .returned (.slice (some ⟨w.heap.size, 0, none⟩) 12 12) ∧ w.alloc (.cells (fvs alw).toArray 41) = w' := by
  go_enter Tryz.func89, Tryz.ntmps89
  go_wp2
  go_ret
  exact ⟨rfl, rfl⟩
end Go.Proofs.YtbgnggkgmeagkaaGreatDoor
namespace Go.Proofs.YtbgnggkgmeagkaaGreatDoor
open Go.RowKit

theorem reads_mid {w : World} {B b off at_ n c : Nat} {l : List UInt8} (h : Reads w B 1 (some ⟨b, off, none⟩) l.length (bs l)) (hn : at_ + n ≤ l.length) (hc : l.length ≤ c) :
    Reads w B 1 (if c = at_ then some ⟨b, off, none⟩ else some ⟨b, off + at_, none⟩) n (bs ((l.drop at_).take n)) := by
  refine ⟨by simp [bs]; omega, fun h0 => ?_⟩
  obtain ⟨b', off', he, hb, hcl⟩ := h.form (by omega)
  cases he
  rw [if_neg (by omega)]
  refine ⟨_, rfl, hb, fun j u hj => ?_⟩
  have hj2 : j < n := by
    have hl := (List.getElem?_eq_some_iff.1 hj).1
    simp [bs] at hl
    omega
  have e : (bs l)[at_ + j]? = some u := by
    rw [← hj]
    simp [bs, List.getElem?_take, hj2]
  have := hcl (at_ + j) u e
  rw [Addr.add_lit]
  rwa [← Nat.add_assoc] at this

theorem below_dN {B : Nat} {a w : World} (h : Below B a w) (n : Nat) : Below B a (w.drewN n) := ⟨h.os, h.tape, h.output, h.size, h.block⟩
theorem reads_head {w : World} {B : Nat} {A : Option Addr} {l : List UInt8} (h : Reads w B 1 A l.length (bs l)) (h0 : 0 < l.length) :
    ∃ b off y, A = some ⟨b, off, none⟩ ∧ b < B ∧ w.cell? ⟨b, off, none⟩ = some (.int .u8 ((y : Nat) : Int)) ∧ (l.headD 0).toNat = y ∧ y < 256 := by
  obtain ⟨b, off, rfl, hb, hc⟩ := reads_byte h (k := 0) h0
  refine ⟨b, off, (l.headD 0).toNat, rfl, hb, ?_, rfl, (l.headD 0).toNat_lt⟩
  cases l with
  | nil => simp at h0
  | cons c r => exact hc
end Go.Proofs.YtbgnggkgmeagkaaGreatDoor
namespace Go.Proofs.YtbgnggkgmeagkaaGreatDoor

/-- A frame: its kind, flags, stream, body. -/
structure Frm where
  K : Int
  F : Int
  S : Int
  body : List UInt8
def frmOk (f : Frm) : Prop := 0 ≤ f.K ∧ f.K ≤ 255 ∧ 0 ≤ f.F ∧ f.F ≤ 255 ∧ 0 ≤ f.S ∧ f.S ≤ 2147483647
instance (f : Frm) : Decidable (frmOk f) := by unfold frmOk; infer_instance
/-- Its fault; it as bytes. -/
def frmE (f : Frm) : Nat := if frmOk f then (if 1024 < f.body.length then 4 else 0) else 1
def frmH (f : Frm) : List UInt8 := beBytes 3 f.body.length ++ ([UInt8.ofNat f.K.toNat, UInt8.ofNat f.F.toNat] ++ beBytes 4 f.S.toNat)
def frmL (f : Frm) : List UInt8 := if frmE f = 0 then frmH f ++ f.body else []
def frm0 : Frm := ⟨0, 0, 0, []⟩
/-- The frame that bytes begin with, how many they are; the fault. -/
def frmR (b : List UInt8) : Frm × Nat × Nat :=
  if b.length < 9 then (frm0, 0, 8)
  else if 1024 < beNat (b.take 3) then (frm0, 0, 4)
  else if 2147483647 < beNat ((b.drop 5).take 4) then (frm0, 0, 10)
  else if b.length - 9 < beNat (b.take 3) then (frm0, 0, 8)
  else (⟨((b.getD 3 0).toNat : Nat), ((b.getD 4 0).toNat : Nat), (beNat ((b.drop 5).take 4) : Nat), (b.drop 9).take (beNat (b.take 3))⟩, 9 + beNat (b.take 3), 0)

theorem frmR_short {b : List UInt8} (h : b.length < 9) : frmR b = (frm0, 0, 8) := by rw [frmR, if_pos h]
theorem frmR_full {b : List UInt8} (h : ¬ b.length < 9) (h2 : 1024 < beNat (b.take 3)) : frmR b = (frm0, 0, 4) := by rw [frmR, if_neg h, if_pos h2]
theorem frmR_over {b : List UInt8} (h : ¬ b.length < 9) (h2 : ¬ 1024 < beNat (b.take 3)) (h3 : 2147483647 < beNat ((b.drop 5).take 4)) : frmR b = (frm0, 0, 10) := by rw [frmR, if_neg h, if_neg h2, if_pos h3]
theorem frmR_more {b : List UInt8} (h : ¬ b.length < 9) (h2 : ¬ 1024 < beNat (b.take 3)) (h3 : ¬ 2147483647 < beNat ((b.drop 5).take 4)) (h4 : b.length - 9 < beNat (b.take 3)) : frmR b = (frm0, 0, 8) := by
  rw [frmR, if_neg h, if_neg h2, if_neg h3, if_pos h4]
theorem frmR_all {b : List UInt8} (h : ¬ b.length < 9) (h2 : ¬ 1024 < beNat (b.take 3)) (h3 : ¬ 2147483647 < beNat ((b.drop 5).take 4)) (h4 : ¬ b.length - 9 < beNat (b.take 3)) :
    frmR b = (⟨((b.getD 3 0).toNat : Nat), ((b.getD 4 0).toNat : Nat), (beNat ((b.drop 5).take 4) : Nat), (b.drop 9).take (beNat (b.take 3))⟩, 9 + beNat (b.take 3), 0) := by
  rw [frmR, if_neg h, if_neg h2, if_neg h3, if_neg h4]

theorem frmH_length (f : Frm) : (frmH f).length = 9 := by simp [frmH, beBytes_length]
theorem frmE_zero {f : Frm} (h : frmE f = 0) : frmOk f ∧ f.body.length ≤ 1024 := by
  unfold frmE at h
  split at h
  · split at h
    · omega
    · exact ⟨by assumption, by omega⟩
  · omega
theorem frmL_is {f : Frm} (h : frmE f = 0) : frmL f = frmH f ++ f.body := by rw [frmL, if_pos h]
theorem frmL_length {f : Frm} (h : frmE f = 0) : (frmL f).length = 9 + f.body.length := by rw [frmL_is h, List.length_append, frmH_length]
theorem frmH_take3 (f : Frm) (r : List UInt8) : (frmH f ++ r).take 3 = beBytes 3 f.body.length := by
  unfold frmH
  rw [List.append_assoc, List.take_append_of_le_length (by rw [beBytes_length]; omega), List.take_of_length_le (by rw [beBytes_length]; omega)]
theorem frmH_drop5 (f : Frm) (r : List UInt8) : (frmH f ++ r).drop 5 = beBytes 4 f.S.toNat ++ r := by
  unfold frmH
  have e : beBytes 3 f.body.length = [UInt8.ofNat (f.body.length / 256 ^ 2), UInt8.ofNat (f.body.length / 256 ^ 1), UInt8.ofNat (f.body.length / 256 ^ 0)] := rfl
  rw [e]
  simp
theorem frmH_at (f : Frm) (r : List UInt8) : (frmH f ++ r).getD 3 0 = UInt8.ofNat f.K.toNat ∧ (frmH f ++ r).getD 4 0 = UInt8.ofNat f.F.toNat := by
  unfold frmH
  have e : beBytes 3 f.body.length = [UInt8.ofNat (f.body.length / 256 ^ 2), UInt8.ofNat (f.body.length / 256 ^ 1), UInt8.ofNat (f.body.length / 256 ^ 0)] := rfl
  rw [e]
  simp
theorem frmH_drop9 (f : Frm) (r : List UInt8) : (frmH f ++ r).drop 9 = r := by
  rw [← frmH_length f, List.drop_left]
theorem u8_back {x : Int} (h0 : 0 ≤ x) (h : x ≤ 255) : (((UInt8.ofNat x.toNat).toNat : Nat) : Int) = x := by
  simp only [UInt8.toNat_ofNat']
  omega
theorem beNat3 (n : Nat) (h : n ≤ 1024) : beNat (beBytes 3 n) = n := beNat_bytes 3 n (by omega)
theorem beNat4 (n : Nat) (h : n ≤ 2147483647) : beNat (beBytes 4 n) = n := beNat_bytes 4 n (by omega)
/-- What a head and any bytes are read as. -/
theorem frmR_head {f : Frm} (h : frmE f = 0) (r : List UInt8) : frmR (frmH f ++ r) = if r.length < f.body.length then (frm0, 0, 8) else (⟨f.K, f.F, f.S, r.take f.body.length⟩, 9 + f.body.length, 0) := by
  obtain ⟨⟨h1, h2, h3, h4, h5, h6⟩, hb⟩ := frmE_zero h
  have e1 : beNat ((frmH f ++ r).take 3) = f.body.length := by rw [frmH_take3, beNat3 _ hb]
  have e2 : beNat (((frmH f ++ r).drop 5).take 4) = f.S.toNat := by
    rw [frmH_drop5, List.take_append_of_le_length (by rw [beBytes_length]; omega), List.take_of_length_le (by rw [beBytes_length]; omega), beNat4 _ (by omega)]
  have e3 : (frmH f ++ r).length = 9 + r.length := by rw [List.length_append, frmH_length]
  by_cases hs : r.length < f.body.length
  · rw [if_pos hs, frmR_more (by omega) (by omega) (by omega) (by omega)]
  · rw [if_neg hs, frmR_all (by omega) (by omega) (by omega) (by omega), e1, e2, (frmH_at f r).1, (frmH_at f r).2, frmH_drop9, u8_back h1 h2, u8_back h3 h4]
    have : ((f.S.toNat : Nat) : Int) = f.S := by omega
    rw [this]
/-- What is said is heard as it was, whatever stands behind it. -/
theorem frm_heard {f : Frm} (h : frmE f = 0) (b : List UInt8) : frmR (frmL f ++ b) = (f, (frmL f).length, 0) := by
  rw [frmL_length h, frmL_is h, List.append_assoc, frmR_head h, if_neg (by simp)]
  rw [List.take_append_of_le_length (Nat.le_refl _), List.take_of_length_le (Nat.le_refl _)]
/-- Cut off anywhere it is not whole. -/
theorem frm_cut {f : Frm} (h : frmE f = 0) (i : Nat) (hi : i < (frmL f).length) : frmR ((frmL f).take i) = (frm0, 0, 8) := by
  rw [frmL_length h] at hi
  by_cases h9 : i < 9
  · exact frmR_short (by rw [List.length_take]; omega)
  · obtain ⟨k, rfl⟩ : ∃ k, i = 9 + k := ⟨i - 9, by omega⟩
    rw [frmL_is h, ← frmH_length f, List.take_length_add_append, frmR_head h, if_pos (by rw [List.length_take]; omega)]
theorem nine {b : List UInt8} (h : ¬ b.length < 9) : b = b.take 3 ++ ([b.getD 3 0, b.getD 4 0] ++ ((b.drop 5).take 4 ++ b.drop 9)) := by
  rcases b with _ | ⟨a1, _ | ⟨a2, _ | ⟨a3, _ | ⟨a4, _ | ⟨a5, _ | ⟨a6, _ | ⟨a7, _ | ⟨a8, _ | ⟨a9, r⟩⟩⟩⟩⟩⟩⟩⟩⟩
  all_goals first | (exfalso; simp at h; done) | simp
/-- What any bytes are read as is said as these. -/
theorem frm_back {b : List UInt8} {g : Frm} {n : Nat} (h : frmR b = (g, n, 0)) : frmE g = 0 ∧ frmL g = b.take n ∧ n ≤ b.length := by
  by_cases h1 : b.length < 9
  · rw [frmR_short h1] at h; cases h
  by_cases h2 : 1024 < beNat (b.take 3)
  · rw [frmR_full h1 h2] at h; cases h
  by_cases h3 : 2147483647 < beNat ((b.drop 5).take 4)
  · rw [frmR_over h1 h2 h3] at h; cases h
  by_cases h4 : b.length - 9 < beNat (b.take 3)
  · rw [frmR_more h1 h2 h3 h4] at h; cases h
  rw [frmR_all h1 h2 h3 h4] at h
  simp only [Prod.mk.injEq, and_true] at h
  obtain ⟨rfl, rfl⟩ := h
  have l1 := (b.getD 3 0).toNat_lt
  have l2 := (b.getD 4 0).toNat_lt
  have hl : ((b.drop 9).take (beNat (b.take 3))).length = beNat (b.take 3) := by
    rw [List.length_take, List.length_drop]
    omega
  have hE : frmE ⟨((b.getD 3 0).toNat : Nat), ((b.getD 4 0).toNat : Nat), (beNat ((b.drop 5).take 4) : Nat), (b.drop 9).take (beNat (b.take 3))⟩ = 0 := by
    unfold frmE
    rw [if_pos (by unfold frmOk; simp only; omega), if_neg (by simp only [hl]; exact h2)]
  refine ⟨hE, ?_, by omega⟩
  rw [frmL_is hE]
  unfold frmH
  simp only [hl, Int.toNat_natCast, UInt8.ofNat_toNat]
  have e1 : beBytes 3 (beNat (b.take 3)) = b.take 3 := by
    have := beBytes_nat (b.take 3)
    rwa [List.length_take, Nat.min_eq_left (by omega)] at this
  have e2 : beBytes 4 (beNat ((b.drop 5).take 4)) = (b.drop 5).take 4 := by
    have := beBytes_nat ((b.drop 5).take 4)
    rwa [List.length_take, List.length_drop, Nat.min_eq_left (by omega)] at this
  rw [e1, e2]
  have h9 := nine h1
  generalize hN : beNat (b.take 3) = N at *
  have hT : (b.take 3 ++ ([b.getD 3 0, b.getD 4 0] ++ (b.drop 5).take 4)).length = 9 := by
    simp
    omega
  have e3 : b.take (9 + N) = (b.take 3 ++ ([b.getD 3 0, b.getD 4 0] ++ (b.drop 5).take 4)) ++ (b.drop 9).take N := by
    rw [show b.take (9 + N) = (b.take 3 ++ ([b.getD 3 0, b.getD 4 0] ++ (b.drop 5).take 4) ++ b.drop 9).take (9 + N) by
      congr 1
      rw [List.append_assoc, List.append_assoc]
      exact h9]
    rw [← hT, List.take_length_add_append]
  rw [e3]
theorem frmR_used {b : List UInt8} (h : (frmR b).2.2 = 0) : (frmR b).2.1 ≤ b.length := (frm_back (b := b) (g := (frmR b).1) (n := (frmR b).2.1) (by rw [← h])).2.2
end Go.Proofs.YtbgnggkgmeagkaaGreatDoor
namespace Go.Proofs.YtbgnggkgmeagkaaGreatDoor
end Go.Proofs.YtbgnggkgmeagkaaGreatDoor
namespace Go.Proofs.YtbgnggkgmeagkaaGreatDoor
end Go.Proofs.YtbgnggkgmeagkaaGreatDoor
namespace Go.Proofs.YtbgnggkgmeagkaaGreatDoor
open Go.RowKit

theorem wholds_any (s : Int) (h1 : 1 ≤ s) (h4 : s ≤ 4) (w : World) :
    Calls Tryz.prog 210 #[.int .i64 s] w fun e w' => e = .returned (.int .i64 (most s.toNat : Nat)) ∧ w = w' := by
  rcases (by omega : s = 1 ∨ s = 2 ∨ s = 3 ∨ s = 4) with rfl | rfl | rfl | rfl
  all_goals
    go_enter Tryz.func210, Tryz.ntmps210
    go_wp2
    go_ret
    exact ⟨by simp [most] <;> first | rfl | decide | omega, rfl⟩

/-- A row that has just been laid is one of the call's own. -/
theorem wbig_ok1 (n : Int) (h0 : 0 ≤ n) (h : n ≤ (most 1 : Nat)) (w : World) :
    Calls Tryz.prog 156 #[.int .i64 n, .int .i64 1] w fun e w' => ∃ v, e = .returned (.tuple #[v, .nilIface]) ∧ w'.ownsRow w.heap.size 5 1 v 1 (bs (beBytes 1 n.toNat)) ∧ Below w.heap.size w w' := by
  have hm : ∀ W : World, (Instr.makeSlice 23 (.int .i64 1) (.int .i64 1)).run Tryz.prog W = .ok (.slice (some ⟨W.heap.size, 0, none⟩) 1 1) (W.alloc (.cells #[.int .u8 0] 5)) := fun _ => by kernel_rfl
  have hn : ¬ n < 0 := by omega
  have hn2 : ¬ ((most 1 : Nat) : Int) < n := by omega
  go_enter Tryz.func156, Tryz.ntmps156
  go_wp2_with (go_at_call 210; refine (wholds_any _ (by omega) (by omega) _).mono ?_; rintro e w' ⟨rfl, rfl⟩)
  refine wp_loop_rounds 2 ?_
  iterate 2
    rw [rounds_succ]
    go_wp2
  go_ret2
  refine ⟨_, rfl, own_new w _ _ _ 1 ?_ (by simp [bs, beBytes]) (by decide), (Below.refl _ _).alloc (Nat.le_refl _) _⟩
  obtain ⟨m, rfl⟩ := Int.eq_ofNat_of_zero_le h0
  simp [bs, beBytes]

theorem wbig_ok2 (n : Int) (h0 : 0 ≤ n) (h : n ≤ (most 2 : Nat)) (w : World) :
    Calls Tryz.prog 156 #[.int .i64 n, .int .i64 2] w fun e w' => ∃ v, e = .returned (.tuple #[v, .nilIface]) ∧ w'.ownsRow w.heap.size 5 1 v 2 (bs (beBytes 2 n.toNat)) ∧ Below w.heap.size w w' := by
  have hm : ∀ W : World, (Instr.makeSlice 23 (.int .i64 2) (.int .i64 2)).run Tryz.prog W = .ok (.slice (some ⟨W.heap.size, 0, none⟩) 2 2) (W.alloc (.cells #[.int .u8 0, .int .u8 0] 5)) := fun _ => by kernel_rfl
  have hn : ¬ n < 0 := by omega
  have hn2 : ¬ ((most 2 : Nat) : Int) < n := by omega
  go_enter Tryz.func156, Tryz.ntmps156
  go_wp2_with (go_at_call 210; refine (wholds_any _ (by omega) (by omega) _).mono ?_; rintro e w' ⟨rfl, rfl⟩)
  refine wp_loop_rounds 3 ?_
  iterate 3
    rw [rounds_succ]
    go_wp2
  go_ret2
  refine ⟨_, rfl, own_new w _ _ _ 2 ?_ (by simp [bs, beBytes]) (by decide), (Below.refl _ _).alloc (Nat.le_refl _) _⟩
  obtain ⟨m, rfl⟩ := Int.eq_ofNat_of_zero_le h0
  simp [bs, beBytes]

theorem wbig_ok3 (n : Int) (h0 : 0 ≤ n) (h : n ≤ (most 3 : Nat)) (w : World) :
    Calls Tryz.prog 156 #[.int .i64 n, .int .i64 3] w fun e w' => ∃ v, e = .returned (.tuple #[v, .nilIface]) ∧ w'.ownsRow w.heap.size 5 1 v 3 (bs (beBytes 3 n.toNat)) ∧ Below w.heap.size w w' := by
  have hm : ∀ W : World, (Instr.makeSlice 23 (.int .i64 3) (.int .i64 3)).run Tryz.prog W = .ok (.slice (some ⟨W.heap.size, 0, none⟩) 3 3) (W.alloc (.cells #[.int .u8 0, .int .u8 0, .int .u8 0] 5)) := fun _ => by kernel_rfl
  have hn : ¬ n < 0 := by omega
  have hn2 : ¬ ((most 3 : Nat) : Int) < n := by omega
  go_enter Tryz.func156, Tryz.ntmps156
  go_wp2_with (go_at_call 210; refine (wholds_any _ (by omega) (by omega) _).mono ?_; rintro e w' ⟨rfl, rfl⟩)
  refine wp_loop_rounds 4 ?_
  iterate 4
    rw [rounds_succ]
    go_wp2
  go_ret2
  refine ⟨_, rfl, own_new w _ _ _ 3 ?_ (by simp [bs, beBytes]) (by decide), (Below.refl _ _).alloc (Nat.le_refl _) _⟩
  obtain ⟨m, rfl⟩ := Int.eq_ofNat_of_zero_le h0
  simp [bs, beBytes]

theorem wbig_ok4 (n : Int) (h0 : 0 ≤ n) (h : n ≤ (most 4 : Nat)) (w : World) :
    Calls Tryz.prog 156 #[.int .i64 n, .int .i64 4] w fun e w' => ∃ v, e = .returned (.tuple #[v, .nilIface]) ∧ w'.ownsRow w.heap.size 5 1 v 4 (bs (beBytes 4 n.toNat)) ∧ Below w.heap.size w w' := by
  have hm : ∀ W : World, (Instr.makeSlice 23 (.int .i64 4) (.int .i64 4)).run Tryz.prog W = .ok (.slice (some ⟨W.heap.size, 0, none⟩) 4 4) (W.alloc (.cells #[.int .u8 0, .int .u8 0, .int .u8 0, .int .u8 0] 5)) := fun _ => by kernel_rfl
  have hn : ¬ n < 0 := by omega
  have hn2 : ¬ ((most 4 : Nat) : Int) < n := by omega
  go_enter Tryz.func156, Tryz.ntmps156
  go_wp2_with (go_at_call 210; refine (wholds_any _ (by omega) (by omega) _).mono ?_; rintro e w' ⟨rfl, rfl⟩)
  refine wp_loop_rounds 5 ?_
  iterate 5
    rw [rounds_succ]
    go_wp2
  go_ret2
  refine ⟨_, rfl, own_new w _ _ _ 4 ?_ (by simp [bs, beBytes]) (by decide), (Below.refl _ _).alloc (Nat.le_refl _) _⟩
  obtain ⟨m, rfl⟩ := Int.eq_ofNat_of_zero_le h0
  simp [bs, beBytes]

theorem wbig_ok (n s : Int) (h1 : 1 ≤ s) (h4 : s ≤ 4) (h0 : 0 ≤ n) (h : n ≤ (most s.toNat : Nat)) (w : World) :
    Calls Tryz.prog 156 #[.int .i64 n, .int .i64 s] w fun e w' => ∃ v, e = .returned (.tuple #[v, .nilIface]) ∧ w'.ownsRow w.heap.size 5 1 v s.toNat (bs (beBytes s.toNat n.toNat)) ∧ Below w.heap.size w w' := by
  rcases (by omega : s = 1 ∨ s = 2 ∨ s = 3 ∨ s = 4) with rfl | rfl | rfl | rfl
  · exact wbig_ok1 n h0 h w
  · exact wbig_ok2 n h0 h w
  · exact wbig_ok3 n h0 h w
  · exact wbig_ok4 n h0 h w

theorem wbig_bad (n s : Int) (hb : ¬ (1 ≤ s ∧ s ≤ 4 ∧ 0 ≤ n ∧ n ≤ (most s.toNat : Nat))) (w : World) :
    Calls Tryz.prog 156 #[.int .i64 n, .int .i64 s] w fun e w' => e = .returned (.tuple #[.slice none 0 0, .iface 95 (.int .i64 1)]) ∧ w = w' := by
  by_cases h1 : s < 1
  · clear hb
    go_enter Tryz.func156, Tryz.ntmps156
    go_wp2
    go_ret2
    exact ⟨rfl, rfl⟩
  by_cases h4 : 4 < s
  · clear hb
    go_enter Tryz.func156, Tryz.ntmps156
    go_wp2
    go_ret2
    exact ⟨rfl, rfl⟩
  by_cases h0 : n < 0
  · clear hb
    go_enter Tryz.func156, Tryz.ntmps156
    go_wp2
    go_ret2
    exact ⟨rfl, rfl⟩
  have h : ((most s.toNat : Nat) : Int) < n := by omega
  clear hb
  go_enter Tryz.func156, Tryz.ntmps156
  go_wp2_with (go_at_call 210; refine (wholds_any _ (by omega) (by omega) _).mono ?_; rintro e w' ⟨rfl, rfl⟩)
  go_ret2
  exact ⟨rfl, rfl⟩
end Go.Proofs.YtbgnggkgmeagkaaGreatDoor
namespace Go.Proofs.YtbgnggkgmeagkaaGreatDoor
open Go.RowKit

theorem pow256_le {k : Nat} (h : k ≤ 7) : (256 : Nat) ^ k ≤ 72057594037927936 := by
  have h1 : (256 : Nat) ^ k ≤ 256 ^ 7 := Nat.pow_le_pow_right (by omega) h
  omega

/-- What the reference's Read, and wire.Read, tell: the number, the fault. -/
def readE (l : List UInt8) (s : Int) : Nat := if s < 1 ∨ 4 < s then 1 else if (l.length : Int) < s then 8 else if 2147483647 < beNat (l.take s.toNat) then 10 else 0
def readN (l : List UInt8) (s : Int) : Nat := if readE l s = 0 then beNat (l.take s.toNat) else 0

end Go.Proofs.YtbgnggkgmeagkaaGreatDoor
namespace Go.Proofs.YtbgnggkgmeagkaaGreatDoor
open Go.RowKit

theorem i64_or_byte (x : Nat) (y : Nat) (hx : x ≤ 281474976710656) (hy : y < 256) : bits .or .i64 ((x : Int) * 256) (y : Int) = (x : Int) * 256 + y := by
  have e : ((x : Int) * 256) = ((x * 256 : Nat) : Int) := by simp
  rw [e]
  have h1 : (BitVec.ofInt 64 ((x * 256 : Nat) : Int)).toNat = x * 256 := by
    rw [BitVec.ofInt_natCast, BitVec.toNat_ofNat]; exact Nat.mod_eq_of_lt (by omega)
  have h2 : (BitVec.ofInt 64 ((y : Nat) : Int)).toNat = y := by
    rw [BitVec.ofInt_natCast, BitVec.toNat_ofNat]; exact Nat.mod_eq_of_lt (by omega)
  show IntKind.i64.wrap ((BitVec.ofInt 64 ((x * 256 : Nat) : Int) ||| BitVec.ofInt 64 ((y : Nat) : Int)).toNat : Int) = _
  rw [BitVec.toNat_or, h1, h2]
  have h3 : x * 256 ||| y = x * 256 + y := by
    have := Nat.shiftLeft_add_eq_or_of_lt (i := 8) (b := y) (by omega) x
    rw [show x * 256 = x <<< 8 from by rw [Nat.shiftLeft_eq]]
    exact this.symm
  rw [h3, IntKind.wrap_i64]
  omega

theorem wread_any (l : List UInt8) (s : Int) (A : Option Addr) (n c : Nat) (hn : n = l.length) (hcap : l.length ≤ c) (hm : l.length ≤ maxLen) (B : Nat) (w : World) (hr : Reads w B 1 A l.length (bs l)) :
    Calls Tryz.prog 212 #[.slice A n c, .int .i64 s] w fun e w' => e = .returned (.tuple #[.int .i64 (readN l s : Nat), errV (readE l s)]) ∧ w = w' := by
  subst hn
  unfold maxLen at hm
  by_cases h1 : s < 1
  · have e1 : readE l s = 1 := by simp [readE, h1]
    have e2 : readN l s = 0 := by simp [readN, e1]
    rw [e1, e2, errV_pos (by decide)]
    clear e1 e2 hr
    go_enter Tryz.func212, Tryz.ntmps212
    go_wp2
    go_ret2
    exact ⟨rfl, rfl⟩
  by_cases h4 : 4 < s
  · have e1 : readE l s = 1 := by simp [readE, h4]
    have e2 : readN l s = 0 := by simp [readN, e1]
    rw [e1, e2, errV_pos (by decide)]
    clear e1 e2 hr
    go_enter Tryz.func212, Tryz.ntmps212
    go_wp2
    go_ret2
    exact ⟨rfl, rfl⟩
  obtain ⟨t, rfl⟩ := Int.eq_ofNat_of_zero_le (show 0 ≤ s by omega)
  by_cases h8 : l.length < t
  · have e1 : readE l t = 8 := by simp [readE, h1, h4, h8]
    have e2 : readN l t = 0 := by simp [readN, e1]
    rw [e1, e2, errV_pos (by decide)]
    clear e1 e2 hr
    go_enter Tryz.func212, Tryz.ntmps212
    go_wp2
    go_ret2
    exact ⟨rfl, rfl⟩
  have htc : t ≤ c := by omega
  have HO : Hid (if 2147483647 < beNat (l.take t) then (readE l t = 10 ∧ readN l t = 0) else (readE l t = 0 ∧ readN l t = beNat (l.take t))) := by
    show if _ then _ else _
    split <;> rename_i h10
    · have e1 : readE l t = 10 := by simp [readE, h1, h4, h8, h10]
      exact ⟨e1, by simp [readN, e1]⟩
    · have e1 : readE l t = 0 := by simp [readE, h1, h4, h8, h10]
      exact ⟨e1, by simp [readN, e1]⟩
  generalize readE l t = re at *
  generalize readN l t = rn at *
  have ht1 : decide ((t : Int) < 1) = false := by simp; omega
  have ht4 : decide ((4 : Int) < (t : Int)) = false := by simp; omega
  have hlt : decide (l.length < t) = false := by simp; omega
  go_enter Tryz.func212, Tryz.ntmps212
  go_wp2
  go_loop [6, 8, 27] (fun x _ i => ∃ k : Nat, k ≤ t ∧ i = .int .i64 k ∧ x = .int .i64 (beNat (l.take k) : Nat)) (fun _ _ i => t - (intOf i).toNat)
  case atStart => exact ⟨0, Nat.zero_le _, rfl, rfl⟩
  case round =>
    obtain ⟨k, hk, rfl, rfl⟩ := hrel
    by_cases hlt : k < t
    · obtain ⟨b, off, rfl, _, hc⟩ := reads_byte hr (show k < l.length by omega)
      have hv := beNat_take_succ l k (by omega)
      have h3 : beNat (l.take k) ≤ 281474976710656 := by
        have := beNat_take_lt l k
        have h5 : (256 : Nat) ^ k ≤ 256 ^ 6 := Nat.pow_le_pow_right (by omega) (by omega)
        omega
      have hx := l[k].toNat_lt
      have hor := i64_or_byte _ _ h3 hx
      have HV := Lib.hid hv
      clear hv hr
      generalize l[k].toNat = y at *
      generalize hg : beNat (l.take k) = x at *
      clear hg
      go_wp2
      go_round
      case rel => exact ⟨k + 1, by omega, by go_num, by rw [HV.out]; go_num⟩
      case measure => simp [intOf]; omega
    · have hkt : k = t := by omega
      subst hkt
      have h3 := beNat_take_lt l k
      have h4' : (most k < beNat (l.take k)) ↔ 2147483647 < beNat (l.take k) := by
        unfold most
        rcases (by omega : k = 1 ∨ k = 2 ∨ k = 3 ∨ k = 4) with rfl | rfl | rfl | rfl <;> simp at h3 ⊢ <;> omega
      clear h3 hr
      by_cases h10 : 2147483647 < beNat (l.take k)
      · have hO := HO.out
        rw [if_pos h10] at hO
        obtain ⟨rfl, rfl⟩ := hO
        have hd : decide (most k < beNat (l.take k)) = true := by simpa using h4'.2 h10
        clear h4' h10 HO
        go_wp2_with (go_at_call 210; refine (wholds_any _ (by omega) (by omega) _).mono ?_; rintro e w' ⟨rfl, rfl⟩)
        go_ret2
        exact ⟨rfl, rfl⟩
      · have hO := HO.out
        rw [if_neg h10] at hO
        obtain ⟨rfl, rfl⟩ := hO
        have hd : decide (most k < beNat (l.take k)) = false := by simpa using (fun h => h10 (h4'.1 h))
        clear h4' h10 HO
        go_wp2_with (go_at_call 210; refine (wholds_any _ (by omega) (by omega) _).mono ?_; rintro e w' ⟨rfl, rfl⟩)
        go_ret2
        exact ⟨rfl, rfl⟩
end Go.Proofs.YtbgnggkgmeagkaaGreatDoor
namespace Go.Proofs.YtbgnggkgmeagkaaGreatDoor
open Go.RowKit

def bigOk (n s : Int) : Prop := 1 ≤ s ∧ s ≤ 4 ∧ 0 ≤ n ∧ n ≤ (most s.toNat : Nat)
instance (n s : Int) : Decidable (bigOk n s) := by unfold bigOk; infer_instance
def bigE (n s : Int) : Nat := if bigOk n s then 0 else 1
def bigL (n s : Int) : List UInt8 := if bigOk n s then beBytes s.toNat n.toNat else []
theorem wbig_any (n s : Int) (w : World) :
    Calls Tryz.prog 156 #[.int .i64 n, .int .i64 s] w fun e w' => ∃ A c, e = .returned (.tuple #[.slice A (bigL n s).length c, errV (bigE n s)]) ∧ Gave w w' (bigL n s) A c := by
  by_cases h : bigOk n s
  · have e1 : bigE n s = 0 := by simp [bigE, h]
    have e2 : bigL n s = beBytes s.toNat n.toNat := by simp [bigL, h]
    rw [e1, e2]
    refine (wbig_ok n s h.1 h.2.1 h.2.2.1 h.2.2.2 w).mono ?_
    rintro e w' ⟨v, he, hown, hb⟩
    obtain ⟨A, c, rfl, hg⟩ := gave_of_own (l := beBytes s.toNat n.toNat) (by rw [beBytes_length]; exact hown) hb
    exact ⟨A, c, he, hg⟩
  · have e1 : bigE n s = 1 := by simp [bigE, h]
    have e2 : bigL n s = [] := by simp [bigL, h]
    rw [e1, e2]
    refine (wbig_bad n s h w).mono ?_
    rintro e w' ⟨he, rfl⟩
    exact ⟨none, 0, he, gave_nil w⟩
end Go.Proofs.YtbgnggkgmeagkaaGreatDoor
namespace Go.Proofs.YtbgnggkgmeagkaaGreatDoor
open Go.RowKit

/-- One slice of several: its address, length, capacity; what it reads as. -/
structure Part where
  A : Option Addr
  n : Nat
  c : Nat
  xs : List Value
def total (ps : List Part) : Nat := (ps.map Part.n).sum
def flat (ps : List Part) : List Value := ps.flatMap Part.xs
theorem total_append (a b : List Part) : total (a ++ b) = total a + total b := by simp [total]
theorem total_take_succ (ps : List Part) (k : Nat) (h : k < ps.length) : total (ps.take (k + 1)) = total (ps.take k) + ps[k].n := by
  rw [List.take_succ_eq_append_getElem h, total_append]
  simp [total]
theorem total_take_le (ps : List Part) (k : Nat) : total (ps.take k) ≤ total ps := by
  have h := total_append (ps.take k) (ps.drop k)
  rw [List.take_append_drop] at h
  omega
theorem flat_append (a b : List Part) : flat (a ++ b) = flat a ++ flat b := by simp [flat]
theorem flat_take_succ (ps : List Part) (k : Nat) (h : k < ps.length) : flat (ps.take (k + 1)) = flat (ps.take k) ++ ps[k].xs := by
  rw [List.take_succ_eq_append_getElem h, flat_append]
  congr 1
  simp [flat]
/-- Slices that lie side by side in a block, each of which reads. -/
def PartsAt (w : World) (size pb : Nat) (ps : List Part) : Prop :=
  ∀ k (hk : k < ps.length), w.cell? ⟨pb, k, none⟩ = some (.slice ps[k].A ps[k].n ps[k].c) ∧ Reads w w.heap.size size ps[k].A ps[k].n ps[k].xs ∧ ∀ u ∈ ps[k].xs, u.oneCell' = true
theorem cell_belowP {w w1 : World} (hb : Below w.heap.size w w1) {p : Addr} {v : Value} (h : w.cell? p = some v) : w1.cell? p = some v := (hb.cell (World.block_lt_of_cell? w p h)).trans h
theorem zeroCells_size (z : Array Value) (n : Nat) : (Builtin.zeroCells z n).size = n * z.size := by
  unfold Builtin.zeroCells
  simp
end Go.Proofs.YtbgnggkgmeagkaaGreatDoor
