/-
  Plain law: frames as bytes, and back. Nothing of the program.
-/
import Derived.Test.YtkbbkamnmdeagaaDoorNum
namespace Go.Proofs.YtkbbkamnmdeagaaDoor

/-- A frame: its kind, flags, stream, body. -/
structure Frm where
  K : Int
  F : Int
  S : Int
  body : List UInt8
def frmOk (f : Frm) : Prop := 0 ≤ f.K ∧ f.K ≤ 255 ∧ 0 ≤ f.F ∧ f.F ≤ 255 ∧ 0 ≤ f.S ∧ f.S ≤ 2147483647
instance (f : Frm) : Decidable (frmOk f) := by unfold frmOk; infer_instance
/-- Its fault; it as bytes. -/
def frmE (f : Frm) : Nat := if frmOk f then (if 1024 < f.body.length then 4 else 0) else 1
def frmH (f : Frm) : List UInt8 := beBytes 3 f.body.length ++ ([UInt8.ofNat f.K.toNat, UInt8.ofNat f.F.toNat] ++ beBytes 4 f.S.toNat)
def frmL (f : Frm) : List UInt8 := if frmE f = 0 then frmH f ++ f.body else []
def frm0 : Frm := ⟨0, 0, 0, []⟩
/-- The frame that bytes begin with, how many they are; the fault. -/
def frmR (b : List UInt8) : Frm × Nat × Nat :=
  if b.length < 9 then (frm0, 0, 8)
  else if 1024 < beNat (b.take 3) then (frm0, 0, 4)
  else if 2147483647 < beNat ((b.drop 5).take 4) then (frm0, 0, 10)
  else if b.length - 9 < beNat (b.take 3) then (frm0, 0, 8)
  else (⟨((b.getD 3 0).toNat : Nat), ((b.getD 4 0).toNat : Nat), (beNat ((b.drop 5).take 4) : Nat), (b.drop 9).take (beNat (b.take 3))⟩, 9 + beNat (b.take 3), 0)

theorem frmR_short {b : List UInt8} (h : b.length < 9) : frmR b = (frm0, 0, 8) := by rw [frmR, if_pos h]
theorem frmR_full {b : List UInt8} (h : ¬ b.length < 9) (h2 : 1024 < beNat (b.take 3)) : frmR b = (frm0, 0, 4) := by rw [frmR, if_neg h, if_pos h2]
theorem frmR_over {b : List UInt8} (h : ¬ b.length < 9) (h2 : ¬ 1024 < beNat (b.take 3)) (h3 : 2147483647 < beNat ((b.drop 5).take 4)) : frmR b = (frm0, 0, 10) := by rw [frmR, if_neg h, if_neg h2, if_pos h3]
theorem frmR_more {b : List UInt8} (h : ¬ b.length < 9) (h2 : ¬ 1024 < beNat (b.take 3)) (h3 : ¬ 2147483647 < beNat ((b.drop 5).take 4)) (h4 : b.length - 9 < beNat (b.take 3)) : frmR b = (frm0, 0, 8) := by
  rw [frmR, if_neg h, if_neg h2, if_neg h3, if_pos h4]
theorem frmR_all {b : List UInt8} (h : ¬ b.length < 9) (h2 : ¬ 1024 < beNat (b.take 3)) (h3 : ¬ 2147483647 < beNat ((b.drop 5).take 4)) (h4 : ¬ b.length - 9 < beNat (b.take 3)) :
    frmR b = (⟨((b.getD 3 0).toNat : Nat), ((b.getD 4 0).toNat : Nat), (beNat ((b.drop 5).take 4) : Nat), (b.drop 9).take (beNat (b.take 3))⟩, 9 + beNat (b.take 3), 0) := by
  rw [frmR, if_neg h, if_neg h2, if_neg h3, if_neg h4]

theorem frmH_length (f : Frm) : (frmH f).length = 9 := by simp [frmH, beBytes_length]
theorem frmE_zero {f : Frm} (h : frmE f = 0) : frmOk f ∧ f.body.length ≤ 1024 := by
  unfold frmE at h
  split at h
  · split at h
    · omega
    · exact ⟨by assumption, by omega⟩
  · omega
theorem frmL_is {f : Frm} (h : frmE f = 0) : frmL f = frmH f ++ f.body := by rw [frmL, if_pos h]
theorem frmL_length {f : Frm} (h : frmE f = 0) : (frmL f).length = 9 + f.body.length := by rw [frmL_is h, List.length_append, frmH_length]
theorem frmH_take3 (f : Frm) (r : List UInt8) : (frmH f ++ r).take 3 = beBytes 3 f.body.length := by
  unfold frmH
  rw [List.append_assoc, List.take_append_of_le_length (by rw [beBytes_length]; omega), List.take_of_length_le (by rw [beBytes_length]; omega)]
theorem frmH_drop5 (f : Frm) (r : List UInt8) : (frmH f ++ r).drop 5 = beBytes 4 f.S.toNat ++ r := by
  unfold frmH
  have e : beBytes 3 f.body.length = [UInt8.ofNat (f.body.length / 256 ^ 2), UInt8.ofNat (f.body.length / 256 ^ 1), UInt8.ofNat (f.body.length / 256 ^ 0)] := rfl
  rw [e]
  simp
theorem frmH_at (f : Frm) (r : List UInt8) : (frmH f ++ r).getD 3 0 = UInt8.ofNat f.K.toNat ∧ (frmH f ++ r).getD 4 0 = UInt8.ofNat f.F.toNat := by
  unfold frmH
  have e : beBytes 3 f.body.length = [UInt8.ofNat (f.body.length / 256 ^ 2), UInt8.ofNat (f.body.length / 256 ^ 1), UInt8.ofNat (f.body.length / 256 ^ 0)] := rfl
  rw [e]
  simp
theorem frmH_drop9 (f : Frm) (r : List UInt8) : (frmH f ++ r).drop 9 = r := by
  rw [← frmH_length f, List.drop_left]
theorem u8_back {x : Int} (h0 : 0 ≤ x) (h : x ≤ 255) : (((UInt8.ofNat x.toNat).toNat : Nat) : Int) = x := by
  simp only [UInt8.toNat_ofNat']
  omega
theorem beNat3 (n : Nat) (h : n ≤ 1024) : beNat (beBytes 3 n) = n := beNat_bytes 3 n (by omega)
theorem beNat4 (n : Nat) (h : n ≤ 2147483647) : beNat (beBytes 4 n) = n := beNat_bytes 4 n (by omega)
/-- What a head and any bytes are read as. -/
theorem frmR_head {f : Frm} (h : frmE f = 0) (r : List UInt8) : frmR (frmH f ++ r) = if r.length < f.body.length then (frm0, 0, 8) else (⟨f.K, f.F, f.S, r.take f.body.length⟩, 9 + f.body.length, 0) := by
  obtain ⟨⟨h1, h2, h3, h4, h5, h6⟩, hb⟩ := frmE_zero h
  have e1 : beNat ((frmH f ++ r).take 3) = f.body.length := by rw [frmH_take3, beNat3 _ hb]
  have e2 : beNat (((frmH f ++ r).drop 5).take 4) = f.S.toNat := by
    rw [frmH_drop5, List.take_append_of_le_length (by rw [beBytes_length]; omega), List.take_of_length_le (by rw [beBytes_length]; omega), beNat4 _ (by omega)]
  have e3 : (frmH f ++ r).length = 9 + r.length := by rw [List.length_append, frmH_length]
  by_cases hs : r.length < f.body.length
  · rw [if_pos hs, frmR_more (by omega) (by omega) (by omega) (by omega)]
  · rw [if_neg hs, frmR_all (by omega) (by omega) (by omega) (by omega), e1, e2, (frmH_at f r).1, (frmH_at f r).2, frmH_drop9, u8_back h1 h2, u8_back h3 h4]
    have : ((f.S.toNat : Nat) : Int) = f.S := by omega
    rw [this]
/-- What is said is heard as it was, whatever stands behind it. -/
theorem frm_heard {f : Frm} (h : frmE f = 0) (b : List UInt8) : frmR (frmL f ++ b) = (f, (frmL f).length, 0) := by
  rw [frmL_length h, frmL_is h, List.append_assoc, frmR_head h, if_neg (by simp)]
  rw [List.take_append_of_le_length (Nat.le_refl _), List.take_of_length_le (Nat.le_refl _)]
/-- Cut off anywhere it is not whole. -/
theorem frm_cut {f : Frm} (h : frmE f = 0) (i : Nat) (hi : i < (frmL f).length) : frmR ((frmL f).take i) = (frm0, 0, 8) := by
  rw [frmL_length h] at hi
  by_cases h9 : i < 9
  · exact frmR_short (by rw [List.length_take]; omega)
  · obtain ⟨k, rfl⟩ : ∃ k, i = 9 + k := ⟨i - 9, by omega⟩
    rw [frmL_is h, ← frmH_length f, List.take_length_add_append, frmR_head h, if_pos (by rw [List.length_take]; omega)]
theorem nine {b : List UInt8} (h : ¬ b.length < 9) : b = b.take 3 ++ ([b.getD 3 0, b.getD 4 0] ++ ((b.drop 5).take 4 ++ b.drop 9)) := by
  rcases b with _ | ⟨a1, _ | ⟨a2, _ | ⟨a3, _ | ⟨a4, _ | ⟨a5, _ | ⟨a6, _ | ⟨a7, _ | ⟨a8, _ | ⟨a9, r⟩⟩⟩⟩⟩⟩⟩⟩⟩
  all_goals first | (exfalso; simp at h; done) | simp
/-- What any bytes are read as is said as these. -/
theorem frm_back {b : List UInt8} {g : Frm} {n : Nat} (h : frmR b = (g, n, 0)) : frmE g = 0 ∧ frmL g = b.take n ∧ n ≤ b.length := by
  by_cases h1 : b.length < 9
  · rw [frmR_short h1] at h; cases h
  by_cases h2 : 1024 < beNat (b.take 3)
  · rw [frmR_full h1 h2] at h; cases h
  by_cases h3 : 2147483647 < beNat ((b.drop 5).take 4)
  · rw [frmR_over h1 h2 h3] at h; cases h
  by_cases h4 : b.length - 9 < beNat (b.take 3)
  · rw [frmR_more h1 h2 h3 h4] at h; cases h
  rw [frmR_all h1 h2 h3 h4] at h
  simp only [Prod.mk.injEq, and_true] at h
  obtain ⟨rfl, rfl⟩ := h
  have l1 := (b.getD 3 0).toNat_lt
  have l2 := (b.getD 4 0).toNat_lt
  have hl : ((b.drop 9).take (beNat (b.take 3))).length = beNat (b.take 3) := by
    rw [List.length_take, List.length_drop]
    omega
  have hE : frmE ⟨((b.getD 3 0).toNat : Nat), ((b.getD 4 0).toNat : Nat), (beNat ((b.drop 5).take 4) : Nat), (b.drop 9).take (beNat (b.take 3))⟩ = 0 := by
    unfold frmE
    rw [if_pos (by unfold frmOk; simp only; omega), if_neg (by simp only [hl]; exact h2)]
  refine ⟨hE, ?_, by omega⟩
  rw [frmL_is hE]
  unfold frmH
  simp only [hl, Int.toNat_natCast, UInt8.ofNat_toNat]
  have e1 : beBytes 3 (beNat (b.take 3)) = b.take 3 := by
    have := beBytes_nat (b.take 3)
    rwa [List.length_take, Nat.min_eq_left (by omega)] at this
  have e2 : beBytes 4 (beNat ((b.drop 5).take 4)) = (b.drop 5).take 4 := by
    have := beBytes_nat ((b.drop 5).take 4)
    rwa [List.length_take, List.length_drop, Nat.min_eq_left (by omega)] at this
  rw [e1, e2]
  have h9 := nine h1
  generalize hN : beNat (b.take 3) = N at *
  have hT : (b.take 3 ++ ([b.getD 3 0, b.getD 4 0] ++ (b.drop 5).take 4)).length = 9 := by
    simp
    omega
  have e3 : b.take (9 + N) = (b.take 3 ++ ([b.getD 3 0, b.getD 4 0] ++ (b.drop 5).take 4)) ++ (b.drop 9).take N := by
    rw [show b.take (9 + N) = (b.take 3 ++ ([b.getD 3 0, b.getD 4 0] ++ (b.drop 5).take 4) ++ b.drop 9).take (9 + N) by
      congr 1
      rw [List.append_assoc, List.append_assoc]
      exact h9]
    rw [← hT, List.take_length_add_append]
  rw [e3]
theorem frmR_used {b : List UInt8} (h : (frmR b).2.2 = 0) : (frmR b).2.1 ≤ b.length := (frm_back (b := b) (g := (frmR b).1) (n := (frmR b).2.1) (by rw [← h])).2.2
end Go.Proofs.YtkbbkamnmdeagaaDoor
