/-
  The closed facts of the row TopLines. No condition.
-/
import Derived.Test.YtbgnggkgmeagkaaGreatDoorRows
import Derived.ProofKit
import Derived.JoinedCond
set_option linter.unusedSimpArgs false
set_option linter.unusedVariables false
namespace Go.Proofs.YtbgnggkgmeagkaaGreatDoor
open Go.ChangeShapes Go.WideShapes Go.RowKit
theorem tlf_1 : (Rows.topLinesRow.wf (OpenSpec.ofChange (OpenSpec.ofChange Rows.topLinesSpec).bare)) = true := by kernel_rfl
theorem tlf_2 : (laidOutB Tryz.pinned.checked.prog) = true := by kernel_rfl
theorem tlf_3 : (mapsRowed Tryz.pinned.checked.prog) = true := by kernel_rfl
theorem tlf_4 : ((Tryz.f3).params.all (Tryz.pinned.checked.prog.readableRec ·)) = true := by kernel_rfl
theorem tlf_5 : (namedTie Tryz.pinned.checked.prog Rows.topLinesRow.named (OpenSpec.ofChange Rows.topLinesSpec).bare.vars) = true := by kernel_rfl
theorem tlf_6 : (Rows.topLinesRow.stops == []) = true := by kernel_rfl
theorem tlf_7 : (Tryz.pinned.checked.prog.stops == []) = true := by kernel_rfl
theorem tlf_8 : (Rows.topLinesRow.knobs == []) = true := by kernel_rfl
theorem tlf_9 : (Tryz.pinned.checked.prog.stopKnobs == []) = true := by kernel_rfl
theorem tlf_10 : (Rows.topLinesRow.inPlace == Tryz.pinned.checked.prog.inPlace 3) = true := by kernel_rfl
theorem tlf_11 : (Rows.topLinesRow.unfollowed == Tryz.pinned.checked.prog.unfollowed 3) = true := by kernel_rfl
theorem tlf_12 : (Rows.topLinesRow.recurses == Tryz.pinned.checked.prog.recurses 3) = true := by kernel_rfl
theorem tlf_13 : (Rows.topLinesRow.named == Tryz.pinned.checked.prog.varsNamed 3) = true := by kernel_rfl
theorem tlf_14 : (Rows.topLinesRow.maps == ((Tryz.f3).params.toList ++ (OpenSpec.ofChange Rows.topLinesSpec).bare.plain.varTypes Tryz.pinned.checked.prog).any (Tryz.pinned.checked.prog.mapsRec ·)) = true := by kernel_rfl
theorem tlf_15 : (Rows.topLinesRow.ifaces == ((Tryz.f3).params.toList ++ (OpenSpec.ofChange Rows.topLinesSpec).bare.plain.varTypes Tryz.pinned.checked.prog).any (Tryz.pinned.checked.prog.ifacesRec ·)) = true := by kernel_rfl
theorem tlf_16 : (Rows.topLinesRow.mapsOut == Tryz.pinned.checked.prog.mapsAmong (Tryz.f3).resultTypes.toList) = true := by kernel_rfl
theorem tlf_17 : (Rows.topLinesRow.loops == ((Tryz.f3).params.toList ++ (OpenSpec.ofChange Rows.topLinesSpec).bare.plain.varTypes Tryz.pinned.checked.prog).any (Tryz.pinned.checked.prog.loopsFrom ·)) = true := by kernel_rfl
theorem tlf_18 : (Rows.topLinesRow.wideKeys == ((Tryz.f3).params.toList ++ (OpenSpec.ofChange Rows.topLinesSpec).bare.plain.varTypes Tryz.pinned.checked.prog ++ (Tryz.f3).resultTypes.toList).any (Tryz.pinned.checked.prog.wideKeysFrom ·)) = true := by kernel_rfl
theorem tlf_19 : ((OpenSpec.ofChange Rows.topLinesSpec).bare.vars.all (Tryz.pinned.checked.prog.varReadable ·)) = true := by kernel_rfl
theorem tlf_20 : ((Tryz.f3).resultTypes.all (fun t => Tryz.pinned.checked.prog.readableRec t && decide (t < Tryz.pinned.checked.prog.types.size))) = true := by kernel_rfl
theorem tlf_21 : (Rows.topLinesRow.ifacesOut == (Tryz.f3).resultTypes.toList.any (Tryz.pinned.checked.prog.ifacesRec ·)) = true := by kernel_rfl
theorem tlf_22 : (Rows.topLinesRow.loopsOut == (Tryz.f3).resultTypes.toList.any (Tryz.pinned.checked.prog.loopsFrom ·)) = true := by kernel_rfl
theorem tlf_23 : (Rows.topLinesRow.plainKeys == Tryz.pinned.checked.prog.plainKeys) = true := by kernel_rfl
theorem tlf_24 : (Rows.topLinesRow.shortTexts.isNone) = true := by kernel_rfl
theorem tlf_25 : (Tryz.pinned.checked.prog.stopsHeard) = true := by kernel_rfl
theorem tlf_26 : (Tryz.pinned.checked.prog.mayEnter) = true := by kernel_rfl
theorem tlf_27 : (Rows.topLinesRow.lifted == Tryz.pinned.checked.prog.liftsFinal) = true := by kernel_rfl
theorem tlf_28 : (Tryz.pinned.checked.prog.make == some Rows.topLinesRow.make) = true := by kernel_rfl
theorem tlf_29 : (Rows.topLinesRow.kinds == (if Rows.topLinesRow.domain.isEmpty then [] else (Tryz.f3).params.toList.map fun t => match Tryz.pinned.checked.prog.underlying t with | some (.int k) => some k | _ => none)) = true := by kernel_rfl
theorem tlf_30 : (Rows.topLinesRow.pinned == Rows.topLinesRow.pinnedBy) = true := by kernel_rfl
theorem tlf_31 : (Rows.topLinesRow.veiled == ((Tryz.f3).params.toList ++ (OpenSpec.ofChange Rows.topLinesSpec).bare.plain.varTypes Tryz.pinned.checked.prog ++ (Tryz.f3).resultTypes.toList).any (Tryz.pinned.checked.prog.veiledRec ·)) = true := by kernel_rfl
theorem tlf_32 : (Rows.topLinesRow.veiledFits Tryz.pinned.checked.prog (Tryz.f3).params.toList ((Tryz.f3).params.toList ++ (OpenSpec.ofChange Rows.topLinesSpec).bare.plain.varTypes Tryz.pinned.checked.prog ++ (Tryz.f3).resultTypes.toList)) = true := by kernel_rfl
set_option maxRecDepth 100000 in
theorem tl_closed : joinedFacts Tryz.pinned.checked.prog 3 (Tryz.f3) (OpenSpec.ofChange Rows.topLinesSpec).bare Rows.topLinesRow = true := by
  simp only [joinedFacts, Bool.and_eq_true]
  exact ⟨⟨⟨⟨⟨⟨⟨⟨⟨⟨⟨⟨⟨⟨⟨⟨⟨⟨⟨⟨⟨⟨⟨⟨⟨⟨⟨⟨⟨⟨⟨tlf_1, tlf_2⟩, tlf_3⟩, tlf_4⟩, tlf_5⟩, tlf_6⟩, tlf_7⟩, tlf_8⟩, tlf_9⟩, tlf_10⟩, tlf_11⟩, tlf_12⟩, tlf_13⟩, tlf_14⟩, tlf_15⟩, tlf_16⟩, tlf_17⟩, tlf_18⟩, tlf_19⟩, tlf_20⟩, tlf_21⟩, tlf_22⟩, tlf_23⟩, tlf_24⟩, tlf_25⟩, tlf_26⟩, tlf_27⟩, tlf_28⟩, tlf_29⟩, tlf_30⟩, tlf_31⟩, tlf_32⟩
end Go.Proofs.YtbgnggkgmeagkaaGreatDoor
