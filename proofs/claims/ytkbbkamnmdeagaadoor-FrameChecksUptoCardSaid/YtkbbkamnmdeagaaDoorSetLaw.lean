/-
  Plain law for settings: as bytes, and the settings of any bytes; settings in memory. Nothing of the program but the numbers' bits.
-/
import Derived.Test.YtkbbkamnmdeagaaDoorFcLaw
import Derived.Test.YtkbbkamnmdeagaaDoorMem2
namespace Go.Proofs.YtkbbkamnmdeagaaDoor
open Go.RowKit

abbrev Pr := Int × Int
def sOk (p : Pr) : Prop := bigE p.1 2 = 0 ∧ bigE p.2 4 = 0
instance (p : Pr) : Decidable (sOk p) := by unfold sOk; infer_instance
def sL (p : Pr) : List UInt8 := bigL p.1 2 ++ bigL p.2 4
def sAll (l : List Pr) : List UInt8 := l.flatMap sL
def setsE (l : List Pr) : Nat := if ∀ p ∈ l, sOk p then (if 1024 < 6 * l.length then 4 else 0) else 1
def setsB (l : List Pr) : List UInt8 := if setsE l = 0 then sAll l else []
theorem bigE_len {n s : Int} (h : bigE n s = 0) : (bigL n s).length = s.toNat := by
  unfold bigE at h
  unfold bigL
  split at h
  · rename_i hk
    rw [if_pos hk, beBytes_length]
  · omega
theorem sL_length {p : Pr} (h : sOk p) : (sL p).length = 6 := by
  unfold sL
  rw [List.length_append, bigE_len h.1, bigE_len h.2]
  rfl
theorem sAll_length {l : List Pr} (h : ∀ p ∈ l, sOk p) : (sAll l).length = 6 * l.length := by
  induction l with
  | nil => rfl
  | cons p l ih =>
    have h1 := sL_length (h p (by simp))
    have h2 := ih (fun q hq => h q (by simp [hq]))
    simp only [sAll, List.flatMap_cons, List.length_append, List.length_cons] at *
    omega
theorem sAll_snoc (l : List Pr) (k : Nat) (h : k < l.length) : sAll (l.take (k + 1)) = sAll (l.take k) ++ sL l[k] := by
  rw [List.take_succ_eq_append_getElem h]
  unfold sAll
  rw [List.flatMap_append, List.flatMap_cons, List.flatMap_nil, List.append_nil]
theorem setsE_bad {l : List Pr} {p : Pr} (hp : p ∈ l) (h : ¬ sOk p) : setsE l = 1 := by
  unfold setsE
  rw [if_neg (fun ha => h (ha p hp))]
theorem setsE_big {l : List Pr} (h : ∀ p ∈ l, sOk p) (h2 : 1024 < 6 * l.length) : setsE l = 4 := by
  unfold setsE
  rw [if_pos h, if_pos h2]
theorem setsE_ok {l : List Pr} (h : ∀ p ∈ l, sOk p) (h2 : ¬ 1024 < 6 * l.length) : setsE l = 0 := by
  unfold setsE
  rw [if_pos h, if_neg h2]
theorem setsB_no {l : List Pr} (h : setsE l ≠ 0) : setsB l = [] := if_neg h
theorem setsB_ok {l : List Pr} (h : setsE l = 0) : setsB l = sAll l := if_pos h

/-- Settings as cells. -/
def pv (p : Pr) : List Value := [.int .i64 p.1, .int .i64 p.2]
def pvs (l : List Pr) : List Value := l.flatMap pv
theorem pvs_nil : pvs [] = [] := rfl
theorem pvs_cons (p : Pr) (l : List Pr) : pvs (p :: l) = .int .i64 p.1 :: .int .i64 p.2 :: pvs l := rfl
theorem pvs_snoc (l : List Pr) (p : Pr) : pvs (l ++ [p]) = pvs l ++ [.int .i64 p.1, .int .i64 p.2] := by simp [pvs, pv]
theorem pvs_length (l : List Pr) : (pvs l).length = l.length * 2 := by
  induction l with
  | nil => rfl
  | cons p l ih => rw [pvs_cons]; simp only [List.length_cons, ih]; omega
theorem pvs_at : ∀ (l : List Pr) (k : Nat) (h : k < l.length), (pvs l)[k * 2]? = some (.int .i64 l[k].1) ∧ (pvs l)[k * 2 + 1]? = some (.int .i64 l[k].2)
  | p :: l, 0, _ => by simp [pvs_cons]
  | p :: l, k + 1, h => by
    have h2 := pvs_at l k (by simpa using h)
    have e : (k + 1) * 2 = k * 2 + 2 := by omega
    rw [e, pvs_cons]
    simpa using h2
  | [], k, h => absurd h (by simp)
theorem pvs_one (l : List Pr) : ∀ u ∈ pvs l, u.oneCell' = true := by
  intro u hu
  obtain ⟨p, _, hf⟩ := List.mem_flatMap.1 hu
  simp only [pv, List.mem_cons, List.not_mem_nil, or_false] at hf
  rcases hf with rfl | rfl <;> rfl
/-- A list of settings that reads: its cells. -/
theorem reads_pair {w : World} {B : Nat} {A : Option Addr} {l : List Pr} (h : Reads w B 2 A l.length (pvs l)) {k : Nat} (hk : k < l.length) :
    ∃ b off, A = some ⟨b, off, none⟩ ∧ b < B ∧ w.cell? ⟨b, off + k * 2, none⟩ = some (.int .i64 l[k].1) ∧ w.cell? ⟨b, off + k * 2 + 1, none⟩ = some (.int .i64 l[k].2) := by
  obtain ⟨ad, rfl, hb, hc⟩ := h.2 (by omega)
  obtain ⟨e0, e1⟩ := pvs_at l k hk
  have c0 := hc _ _ e0
  have c1 := hc _ _ e1
  have hs := World.cell?_spot (hc _ _ (pvs_at l 0 (by omega)).1)
  obtain ⟨b, off, sp⟩ := ad
  have : sp = none := by simpa [Addr.add] using hs
  subst this
  rw [Addr.add_lit] at c0 c1
  exact ⟨b, off, rfl, hb, c0, by rw [Nat.add_assoc]; exact c1⟩

/-- The settings that bytes are. -/
def pc6s (b : List UInt8) (k : Nat) : List Pr := (List.range k).map fun j => ((setId (pc6 b j) : Int), (setX (pc6 b j) : Int))
theorem pc6s_length (b : List UInt8) (k : Nat) : (pc6s b k).length = k := by simp [pc6s]
theorem pc6s_snoc (b : List UInt8) (k : Nat) : pc6s b (k + 1) = pc6s b k ++ [((setId (pc6 b k) : Int), (setX (pc6 b k) : Int))] := by simp [pc6s, List.range_succ]
def tooW (b : List UInt8) (j : Nat) : Prop := 2147483647 < setX (pc6 b j)
instance (b : List UInt8) (j : Nat) : Decidable (tooW b j) := by unfold tooW; infer_instance
def rsE (b : List UInt8) : Nat := if b.length % 6 ≠ 0 then 3 else if ∃ j, j < b.length / 6 ∧ tooW b j then 10 else 0
def rsL (b : List UInt8) : List Pr := if rsE b = 0 then pc6s b (b.length / 6) else []
theorem rsE_shape {b : List UInt8} (h : b.length % 6 ≠ 0) : rsE b = 3 := if_pos h
theorem rsE_over {b : List UInt8} (h : b.length % 6 = 0) {j : Nat} (hj : j < b.length / 6) (ht : tooW b j) : rsE b = 10 := by
  unfold rsE
  rw [if_neg (by omega), if_pos ⟨j, hj, ht⟩]
theorem rsE_ok {b : List UInt8} (h : b.length % 6 = 0) (hj : ∀ j, j < b.length / 6 → ¬ tooW b j) : rsE b = 0 := by
  unfold rsE
  rw [if_neg (by omega), if_neg (fun ⟨j, h1, h2⟩ => hj j h1 h2)]
theorem rsL_no {b : List UInt8} (h : rsE b ≠ 0) : rsL b = [] := if_neg h
theorem rsL_ok {b : List UInt8} (h : rsE b = 0) : rsL b = pc6s b (b.length / 6) := if_pos h
end Go.Proofs.YtkbbkamnmdeagaaDoor
