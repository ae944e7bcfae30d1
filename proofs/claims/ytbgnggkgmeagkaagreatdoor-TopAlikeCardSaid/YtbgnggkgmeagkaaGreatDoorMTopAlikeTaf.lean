/-
  A part of the proof of TopAlike: each theorem states its own conditions.
-/
import Derived.Test.YtbgnggkgmeagkaaGreatDoorRows
import Derived.ProofKit
import Derived.JoinedCond
set_option linter.unusedSimpArgs false
set_option linter.unusedVariables false
set_option maxRecDepth 100000
set_option maxHeartbeats 16000000
namespace Go.Proofs.YtbgnggkgmeagkaaGreatDoor
open Go.Proofs.Tryz
open Go.ChangeShapes Go.WideShapes Go.RowKit
theorem taf_1 :(Rows.topAlikeRow.wf (OpenSpec.ofChange (OpenSpec.ofChange Rows.topAlikeSpec).bare))=true:=by kernel_rfl
theorem taf_2 :(laidOutB Tryz.pinned.checked.prog)=true:=by kernel_rfl
theorem taf_3 :(mapsRowed Tryz.pinned.checked.prog)=true:=by kernel_rfl
theorem taf_4 :((Tryz.f4).params.all (Tryz.pinned.checked.prog.readableRec ·))=true:=by kernel_rfl
theorem taf_5 :(namedTie Tryz.pinned.checked.prog Rows.topAlikeRow.named (OpenSpec.ofChange Rows.topAlikeSpec).bare.vars)=true:=by kernel_rfl
theorem taf_6 :(Rows.topAlikeRow.stops==[])=true:=by kernel_rfl
theorem taf_7 :(Tryz.pinned.checked.prog.stops==[])=true:=by kernel_rfl
theorem taf_8 :(Rows.topAlikeRow.knobs==[])=true:=by kernel_rfl
theorem taf_9 :(Tryz.pinned.checked.prog.stopKnobs==[])=true:=by kernel_rfl
theorem taf_10 :(Rows.topAlikeRow.inPlace==Tryz.pinned.checked.prog.inPlace 4)=true:=by kernel_rfl
theorem taf_11 :(Rows.topAlikeRow.unfollowed==Tryz.pinned.checked.prog.unfollowed 4)=true:=by kernel_rfl
theorem taf_12 :(Rows.topAlikeRow.recurses==Tryz.pinned.checked.prog.recurses 4)=true:=by kernel_rfl
theorem taf_13 :(Rows.topAlikeRow.named==Tryz.pinned.checked.prog.varsNamed 4)=true:=by kernel_rfl
theorem taf_14 :(Rows.topAlikeRow.maps==((Tryz.f4).params.toList++(OpenSpec.ofChange Rows.topAlikeSpec).bare.plain.varTypes Tryz.pinned.checked.prog).any (Tryz.pinned.checked.prog.mapsRec ·))=true:=by kernel_rfl
theorem taf_15 :(Rows.topAlikeRow.ifaces==((Tryz.f4).params.toList++(OpenSpec.ofChange Rows.topAlikeSpec).bare.plain.varTypes Tryz.pinned.checked.prog).any (Tryz.pinned.checked.prog.ifacesRec ·))=true:=by kernel_rfl
theorem taf_16 :(Rows.topAlikeRow.mapsOut==Tryz.pinned.checked.prog.mapsAmong (Tryz.f4).resultTypes.toList)=true:=by kernel_rfl
theorem taf_17 :(Rows.topAlikeRow.loops==((Tryz.f4).params.toList++(OpenSpec.ofChange Rows.topAlikeSpec).bare.plain.varTypes Tryz.pinned.checked.prog).any (Tryz.pinned.checked.prog.loopsFrom ·))=true:=by kernel_rfl
theorem taf_18 :(Rows.topAlikeRow.wideKeys==((Tryz.f4).params.toList++(OpenSpec.ofChange Rows.topAlikeSpec).bare.plain.varTypes Tryz.pinned.checked.prog++(Tryz.f4).resultTypes.toList).any (Tryz.pinned.checked.prog.wideKeysFrom ·))=true:=by kernel_rfl
theorem taf_19 :((OpenSpec.ofChange Rows.topAlikeSpec).bare.vars.all (Tryz.pinned.checked.prog.varReadable ·))=true:=by kernel_rfl
theorem taf_20 :((Tryz.f4).resultTypes.all (fun t=>Tryz.pinned.checked.prog.readableRec t && decide (t < Tryz.pinned.checked.prog.types.size)))=true:=by kernel_rfl
theorem taf_21 :(Rows.topAlikeRow.ifacesOut==(Tryz.f4).resultTypes.toList.any (Tryz.pinned.checked.prog.ifacesRec ·))=true:=by kernel_rfl
theorem taf_22 :(Rows.topAlikeRow.loopsOut==(Tryz.f4).resultTypes.toList.any (Tryz.pinned.checked.prog.loopsFrom ·))=true:=by kernel_rfl
theorem taf_23 :(Rows.topAlikeRow.plainKeys==Tryz.pinned.checked.prog.plainKeys)=true:=by kernel_rfl
theorem taf_24 :(Rows.topAlikeRow.shortTexts.isNone)=true:=by kernel_rfl
theorem taf_25 :(Tryz.pinned.checked.prog.stopsHeard)=true:=by kernel_rfl
theorem taf_26 :(Tryz.pinned.checked.prog.mayEnter)=true:=by kernel_rfl
theorem taf_27 :(Rows.topAlikeRow.lifted==Tryz.pinned.checked.prog.liftsFinal)=true:=by kernel_rfl
theorem taf_28 :(Tryz.pinned.checked.prog.make==some Rows.topAlikeRow.make)=true:=by kernel_rfl
theorem taf_29 :(Rows.topAlikeRow.kinds==(if Rows.topAlikeRow.domain.isEmpty then []else(Tryz.f4).params.toList.map fun t=>match Tryz.pinned.checked.prog.underlying t with | some (.int k)=>some k | _=>none))=true:=by kernel_rfl
theorem taf_30 :(Rows.topAlikeRow.pinned==Rows.topAlikeRow.pinnedBy)=true:=by kernel_rfl
theorem taf_31 :(Rows.topAlikeRow.veiled==((Tryz.f4).params.toList++(OpenSpec.ofChange Rows.topAlikeSpec).bare.plain.varTypes Tryz.pinned.checked.prog++(Tryz.f4).resultTypes.toList).any (Tryz.pinned.checked.prog.veiledRec ·))=true:=by kernel_rfl
theorem taf_32 :(Rows.topAlikeRow.veiledFits Tryz.pinned.checked.prog (Tryz.f4).params.toList ((Tryz.f4).params.toList++(OpenSpec.ofChange Rows.topAlikeSpec).bare.plain.varTypes Tryz.pinned.checked.prog++(Tryz.f4).resultTypes.toList))=true:=by kernel_rfl
theorem Zyc :joinedFacts Tryz.pinned.checked.prog 4 (Tryz.f4) (OpenSpec.ofChange Rows.topAlikeSpec).bare Rows.topAlikeRow=true:=by
 simp only[joinedFacts,Bool.and_eq_true]
 exact⟨⟨⟨⟨⟨⟨⟨⟨⟨⟨⟨⟨⟨⟨⟨⟨⟨⟨⟨⟨⟨⟨⟨⟨⟨⟨⟨⟨⟨⟨⟨taf_1,taf_2⟩,taf_3⟩,taf_4⟩,taf_5⟩,taf_6⟩,taf_7⟩,taf_8⟩,taf_9⟩,taf_10⟩,taf_11⟩,taf_12⟩,taf_13⟩,taf_14⟩,taf_15⟩,taf_16⟩,taf_17⟩,taf_18⟩,taf_19⟩,taf_20⟩,taf_21⟩,taf_22⟩,taf_23⟩,taf_24⟩,taf_25⟩,taf_26⟩,taf_27⟩,taf_28⟩,taf_29⟩,taf_30⟩,taf_31⟩,taf_32⟩
end Go.Proofs.YtbgnggkgmeagkaaGreatDoor
