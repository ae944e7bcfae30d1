/-
  Fields in memory; table.Size, table.right, table.New, the table's own small words. Condition: the texts' lengths.
-/
import Derived.Test.YtkbbkamnmdeagaaDoorTab
import Derived.Test.YtkbbkamnmdeagaaDoorStr
import Derived.Test.YtkbbkamnmdeagaaDoorBytes
namespace Go.Proofs.YtkbbkamnmdeagaaDoor
open Go.RowKit

def sv (l : List UInt8) : Value := .string ⟨l.toArray⟩
/-- A field as cells, as a value. -/
def fv (f : Fld) : List Value := [.string ⟨f.1.toArray⟩, .string ⟨f.2.toArray⟩]
def fA (f : Fld) : Value := .agg #[.string ⟨f.1.toArray⟩, .string ⟨f.2.toArray⟩]
def fvs (l : List Fld) : List Value := l.flatMap fv
theorem fvs_nil : fvs [] = [] := rfl
theorem fvs_cons (f : Fld) (l : List Fld) : fvs (f :: l) = fv f ++ fvs l := rfl
theorem fvs_append (a b : List Fld) : fvs (a ++ b) = fvs a ++ fvs b := by simp [fvs]
theorem fvs_length (l : List Fld) : (fvs l).length = l.length * 2 := by
  induction l with
  | nil => rfl
  | cons f l ih =>
    rw [fvs_cons, List.length_append, ih]
    simp [fv]
    omega
theorem fvs_take (l : List Fld) (k : Nat) : (fvs l).take (k * 2) = fvs (l.take k) := by
  induction l generalizing k with
  | nil => simp [fvs]
  | cons f l ih =>
    cases k with
    | zero => simp [fvs]
    | succ k =>
      rw [fvs_cons, List.take_succ_cons, fvs_cons, ← ih k]
      simp [fv, Nat.add_mul]
theorem fvs_one (l : List Fld) : ∀ u ∈ fvs l, u.oneCell' = true := by
  intro u hu
  obtain ⟨f, _, hf⟩ := List.mem_flatMap.1 hu
  simp only [fv, List.mem_cons, List.not_mem_nil, or_false] at hf
  rcases hf with rfl | rfl <;> rfl
theorem fvs_at (l : List Fld) : ∀ {k : Nat} (_ : k < l.length), (fvs l)[k * 2]? = some (.string ⟨l[k].1.toArray⟩) ∧ (fvs l)[k * 2 + 1]? = some (.string ⟨l[k].2.toArray⟩) := by
  induction l with
  | nil => intro k h; simp at h
  | cons f l ih =>
    intro k h
    cases k with
    | zero => exact ⟨rfl, rfl⟩
    | succ k =>
      have := ih (k := k) (by simpa using h)
      have e1 : (fvs (f :: l))[(k + 1) * 2]? = (fvs l)[k * 2]? := by
        rw [fvs_cons, show (k + 1) * 2 = k * 2 + 1 + 1 by omega]
        simp [fv]
      have e2 : (fvs (f :: l))[(k + 1) * 2 + 1]? = (fvs l)[k * 2 + 1]? := by
        rw [fvs_cons, show (k + 1) * 2 + 1 = k * 2 + 1 + 1 + 1 by omega]
        simp [fv]
      rw [e1, e2]
      simpa using this
/-- Fields that are read: the address written out, the cells of each. -/
theorem reads_fld {w : World} {B : Nat} {A : Option Addr} {l : List Fld} (h : Reads w B 2 A l.length (fvs l)) (h0 : 0 < l.length) :
    ∃ b off, A = some ⟨b, off, none⟩ ∧ b < B ∧ ∀ k (hk : k < l.length), w.cell? ⟨b, off + k * 2, none⟩ = some (.string ⟨l[k].1.toArray⟩) ∧ w.cell? ⟨b, off + k * 2 + 1, none⟩ = some (.string ⟨l[k].2.toArray⟩) := by
  obtain ⟨ad, e, hb, hc⟩ := h.2 h0
  obtain ⟨b, off, spot⟩ := ad
  have h1 := hc _ _ (fvs_at l h0).1
  have hspot : spot = none := by simpa [Addr.add] using World.cell?_spot h1
  subst hspot
  refine ⟨b, off, e, hb, fun k hk => ?_⟩
  have h2 := hc _ _ (fvs_at l hk).1
  have h3 := hc _ _ (fvs_at l hk).2
  rw [Addr.add_lit] at h2 h3
  rw [← Nat.add_assoc] at h3
  exact ⟨h2, h3⟩

/-- What a field's texts may be long. -/
def fOk (f : Fld) : Prop := f.1.length ≤ 140737488355328 ∧ f.2.length ≤ 140737488355328

set_option maxHeartbeats 1000000 in
theorem size_any (f : Fld) (hf : fOk f) (w : World) :
    Calls Tryd.prog 83 #[.agg #[.string ⟨f.1.toArray⟩, .string ⟨f.2.toArray⟩]] w fun e w' => e = .returned (.int .i64 (fsz f : Nat)) ∧ Below w.heap.size w w' := by
  obtain ⟨h1, h2⟩ := hf
  go_enter Tryd.func83, Tryd.ntmps83
  go_wp2
  go_ret
  refine ⟨?_, (Below.refl _ _).alloc (Nat.le_refl _) _⟩
  simp [fsz]

theorem fld_info : (Tryd.prog.info? 86).map (fun i => (i.zero, i.size, i.bytes)) = some (some (.agg #[.string ⟨#[]⟩, .string ⟨#[]⟩]), 2, 32) := by kernel_rfl

set_option maxRecDepth 100000 in
set_option maxHeartbeats 1000000 in
theorem always_any (w : World) :
    Calls Tryd.prog 88 #[] w fun e w' => e = .returned (.slice (some ⟨w.heap.size, 0, none⟩) 12 12) ∧ w.alloc (.cells (fvs alw).toArray 86) = w' := by
  go_enter Tryd.func88, Tryd.ntmps88
  go_wp2
  go_ret
  exact ⟨rfl, rfl⟩
end Go.Proofs.YtkbbkamnmdeagaaDoor
