/-
  tollsame.Fields: lists that read alike are the same. Condition: the bound on the length.
-/
import Derived.Test.YtkbbkamnmdeagaaFld
import Derived.Deep.QuietTactic
import Derived.BigQuiet
import Derived.Deep.CutRange
namespace Go.Proofs.Ytkbbkamnmdeagaa
open Go.RowKit

theorem below_dF {B : Nat} {w w1 : World} (h : Below B w w1) (n : Nat) : Below B w (w1.drewN n) := ⟨h.os, h.tape, h.output, h.size, h.block⟩
set_option maxRecDepth 100000 in
set_option maxHeartbeats 2000000 in
theorem same_fields (l : List Fld) (hm : l.length ≤ 140737488355328) (A1 A2 : Option Addr) (n1 n2 c1 c2 : Nat) (hn1 : n1 = l.length) (hn2 : n2 = l.length) (w : World) (h1 : Reads w w.heap.size 2 A1 l.length (fvs l)) (h2 : Reads w w.heap.size 2 A2 l.length (fvs l)) :
    Calls Try.prog 22 #[.slice A1 n1 c1, .slice A2 n2 c2] w fun e w' => e = .returned (.bool true) ∧ Below w.heap.size w w' := by
  subst hn1
  subst hn2
  have H1 := Lib.hid h1
  have H2 := Lib.hid h2
  clear h1 h2
  go_enter Try.func22, Try.ntmps22
  go_wp2
  go_loopw [5] (fun i wr => ∃ k : Nat, k ≤ l.length ∧ i = .int .i64 (k : Int) ∧ Hid (Below w.heap.size w wr)) (fun i _ => l.length - (intOf i).toNat)
  case atStart => exact ⟨0, Nat.zero_le _, rfl, Below.refl _ _⟩
  case round =>
    obtain ⟨k, hk, rfl, HBr⟩ := hrel
    by_cases hlt : k < l.length
    · obtain ⟨b, off, rfl, hbB, hcl⟩ := reads_fld (H1.out.below HBr.out) (by omega)
      obtain ⟨b', off', rfl, hbB', hcl'⟩ := reads_fld (H2.out.below HBr.out) (by omega)
      obtain ⟨e0, e1⟩ := hcl k hlt
      obtain ⟨e2, e3⟩ := hcl' k hlt
      have hbr := Nat.lt_of_lt_of_le hbB HBr.out.size
      have hbr' := Nat.lt_of_lt_of_le hbB' HBr.out.size
      clear hcl hcl'
      generalize l[k] = f at *
      go_upto_region 6 with fail
      go_quiet (fail)
      go_wp2
      go_roundw
      case rel => exact ⟨k + 1, by omega, by go_num, below_dF HBr.out _⟩
      case measure => simp [intOf]; omega
    · go_wp2
      go_ret
      exact ⟨rfl, HBr.out⟩
end Go.Proofs.Ytkbbkamnmdeagaa
