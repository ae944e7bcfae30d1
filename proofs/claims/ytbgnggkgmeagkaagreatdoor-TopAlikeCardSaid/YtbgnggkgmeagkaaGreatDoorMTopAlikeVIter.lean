/-
  A part of the proof of TopAlike: each theorem states its own conditions.
-/
import Derived.Shelf.SlGeneric
import Derived.Shelf.SlIterI.Nil
import Derived.Shelf.SortM.Plain
import Derived.Shelf.SortM.SortNone
import Derived.Test.YtbgnggkgmeagkaaGreatDoorProg
set_option linter.unusedSimpArgs false
set_option linter.unusedVariables false
set_option maxRecDepth 100000
set_option maxHeartbeats 16000000
namespace Go.Proofs
open Go.Shelf
def Tryz.keysJ_ren :Go.Shelf.Ren:=⟨fun | 7=>61 | 10=>115 | n=>n,fun | 23=>117 | 26=>3 | 3=>141 | 28=>138 | 0=>0 | 27=>137 | 33=>166 | 4=>4 | n=>n,fun | n=>n⟩
theorem Tryz.keysJ :Go.Proofs.SlLaysZI.n7 Tryz.prog Tryz.keysJ_ren:={
 mixed:=by kernel_rfl
 f7:=⟨Tryz.f61.name,by decide,Tryz.func61.trans (congrArg some (by kernel_rfl))⟩
 f10:=⟨Tryz.f115.name,by decide,Tryz.func115.trans (congrArg some (by kernel_rfl))⟩
 t0:=Tryz.underlying0
 a0:=Tryz.isAgg0
 z0:=Tryz.sizeOf0
 v0:=Tryz.zeroValue0
 t4:=Tryz.underlying4
 a4:=Tryz.isAgg4
 z4:=Tryz.sizeOf4
 v4:=Tryz.zeroValue4
 t23:=Tryz.underlying117
 a23:=Tryz.isAgg117
 z23:=Tryz.sizeOf117
 v23:=Tryz.zeroValue117
 t26:=Tryz.underlying3
 a26:=Tryz.isAgg3
 z26:=Tryz.sizeOf3
 v26:=Tryz.zeroValue3
 t27:=Tryz.underlying137
 a27:=Tryz.isAgg137
 z27:=Tryz.sizeOf137
 v27:=Tryz.zeroValue137
 t28:=Tryz.underlying138
 a28:=Tryz.isAgg138
 z28:=Tryz.sizeOf138
 v28:=Tryz.zeroValue138
 t33:=Tryz.underlying166
 a33:=Tryz.isAgg166
 z33:=Tryz.sizeOf166
 v33:=Tryz.zeroValue166}
def Tryz.sortedJ_ren :Go.Shelf.Ren:=⟨fun | 6=>60 | 8=>113 | 9=>114 | 11=>168 | 13=>170 | 12=>169 | 23=>243 | 24=>244 | 14=>234 | 15=>235 | 16=>236 | 17=>237 | 18=>238 | 19=>239 | 20=>240 | 21=>241 | 22=>242 | 25=>290 | 26=>291 | 27=>292 | 28=>293 | 29=>294 | 30=>295 | 31=>319 | n=>n,fun | 26=>3 | 28=>138 | 24=>58 | 0=>0 | 3=>3 | 37=>242 | 48=>333 | 50=>289 | 4=>4 | 40=>325 | 39=>324 | 45=>330 | 5=>5 | 9=>9 | 51=>362 | 55=>366 | 57=>389 | 58=>99 | 33=>166 | n=>n,fun | n=>n⟩
theorem Tryz.sortedJ :Go.Proofs.SlLaysZI.n6 Tryz.prog Tryz.sortedJ_ren:={
 mixed:=by kernel_rfl
 f6:=⟨Tryz.f60.name,by decide,Tryz.func60.trans (congrArg some (by kernel_rfl))⟩
 f8:=⟨Tryz.f113.name,by decide,Tryz.func113.trans (congrArg some (by kernel_rfl))⟩
 f11:=⟨Tryz.f168.name,by decide,Tryz.func168.trans (congrArg some (by kernel_rfl))⟩
 t0:=Tryz.underlying0
 a0:=Tryz.isAgg0
 z0:=Tryz.sizeOf0
 v0:=Tryz.zeroValue0
 t24:=Tryz.underlying58
 a24:=Tryz.isAgg58
 z24:=Tryz.sizeOf58
 v24:=Tryz.zeroValue58
 t26:=Tryz.underlying3
 a26:=Tryz.isAgg3
 z26:=Tryz.sizeOf3
 v26:=Tryz.zeroValue3
 t28:=Tryz.underlying138
 a28:=Tryz.isAgg138
 z28:=Tryz.sizeOf138
 v28:=Tryz.zeroValue138
 i26:=by kernel_rfl}
def Tryz.sortJ_ren :Go.Shelf.Ren:=⟨fun | 5=>114 | 8=>170 | 7=>169 | 19=>243 | 20=>244 | 10=>234 | 11=>235 | 12=>236 | 13=>237 | 14=>238 | 15=>239 | 16=>240 | 17=>241 | 18=>242 | 30=>290 | 31=>291 | 32=>292 | 33=>293 | 34=>294 | 35=>295 | 40=>319 | n=>n,fun | 23=>58 | 25=>3 | 3=>3 | 32=>242 | 22=>58 | 0=>0 | 44=>333 | 46=>289 | 4=>4 | 36=>325 | 35=>324 | 41=>330 | 5=>5 | 9=>9 | 53=>362 | 57=>366 | 63=>389 | 64=>99 | n=>n,fun | n=>n⟩
theorem Tryz.sortJ :Go.Proofs.SlLaysM.n5 Tryz.prog Tryz.sortJ_ren:={
 mixed:=by kernel_rfl
 f5:=⟨Tryz.f114.name,by decide,Tryz.func114.trans (congrArg some (by kernel_rfl))⟩
 f7:=⟨Tryz.f169.name,by decide,Tryz.func169.trans (congrArg some (by kernel_rfl))⟩
 f8:=Tryz.func170.trans (congrArg some (by kernel_rfl))
 f10:=⟨Tryz.f234.name,by decide,Tryz.func234.trans (congrArg some (by kernel_rfl))⟩
 f11:=⟨Tryz.f235.name,by decide,Tryz.func235.trans (congrArg some (by kernel_rfl))⟩
 f12:=⟨Tryz.f236.name,by decide,Tryz.func236.trans (congrArg some (by kernel_rfl))⟩
 f13:=⟨Tryz.f237.name,by decide,Tryz.func237.trans (congrArg some (by kernel_rfl))⟩
 f14:=⟨Tryz.f238.name,by decide,Tryz.func238.trans (congrArg some (by kernel_rfl))⟩
 f15:=⟨Tryz.f239.name,by decide,Tryz.func239.trans (congrArg some (by kernel_rfl))⟩
 f16:=⟨Tryz.f240.name,by decide,Tryz.func240.trans (congrArg some (by kernel_rfl))⟩
 f17:=⟨Tryz.f241.name,by decide,Tryz.func241.trans (congrArg some (by kernel_rfl))⟩
 f18:=⟨Tryz.f242.name,by decide,Tryz.func242.trans (congrArg some (by kernel_rfl))⟩
 f19:=Tryz.func243.trans (congrArg some (by kernel_rfl))
 f20:=Tryz.func244.trans (congrArg some (by kernel_rfl))
 f30:=⟨Tryz.f290.name,by decide,Tryz.func290.trans (congrArg some (by kernel_rfl))⟩
 f31:=Tryz.func291.trans (congrArg some (by kernel_rfl))
 f32:=Tryz.func292.trans (congrArg some (by kernel_rfl))
 f33:=⟨Tryz.f293.name,by decide,Tryz.func293.trans (congrArg some (by kernel_rfl))⟩
 f34:=⟨Tryz.f294.name,by decide,Tryz.func294.trans (congrArg some (by kernel_rfl))⟩
 f35:=⟨Tryz.f295.name,by decide,Tryz.func295.trans (congrArg some (by kernel_rfl))⟩
 f40:=⟨Tryz.f319.name,by decide,Tryz.func319.trans (congrArg some (by kernel_rfl))⟩
 t0:=Tryz.underlying0
 a0:=Tryz.isAgg0
 z0:=Tryz.sizeOf0
 v0:=Tryz.zeroValue0
 t3:=Tryz.underlying3
 a3:=Tryz.isAgg3
 z3:=Tryz.sizeOf3
 v3:=Tryz.zeroValue3
 t4:=Tryz.underlying4
 a4:=Tryz.isAgg4
 z4:=Tryz.sizeOf4
 v4:=Tryz.zeroValue4
 t5:=Tryz.underlying5
 a5:=Tryz.isAgg5
 z5:=Tryz.sizeOf5
 v5:=Tryz.zeroValue5
 t9:=Tryz.underlying9
 a9:=Tryz.isAgg9
 z9:=Tryz.sizeOf9
 v9:=Tryz.zeroValue9
 t22:=Tryz.underlying58
 a22:=Tryz.isAgg58
 z22:=Tryz.sizeOf58
 v22:=Tryz.zeroValue58
 t23:=Tryz.underlying58
 a23:=Tryz.isAgg58
 z23:=Tryz.sizeOf58
 v23:=Tryz.zeroValue58
 t25:=Tryz.underlying3
 a25:=Tryz.isAgg3
 z25:=Tryz.sizeOf3
 v25:=Tryz.zeroValue3
 t32:=Tryz.underlying242
 a32:=Tryz.isAgg242
 z32:=Tryz.sizeOf242
 v32:=Tryz.zeroValue242
 t35:=Tryz.underlying324
 a35:=Tryz.isAgg324
 z35:=Tryz.sizeOf324
 v35:=Tryz.zeroValue324
 t36:=Tryz.underlying325
 a36:=Tryz.isAgg325
 z36:=Tryz.sizeOf325
 v36:=Tryz.zeroValue325
 t41:=Tryz.underlying330
 a41:=Tryz.isAgg330
 z41:=Tryz.sizeOf330
 v41:=Tryz.zeroValue330
 t44:=Tryz.underlying333
 a44:=Tryz.isAgg333
 z44:=Tryz.sizeOf333
 v44:=Tryz.zeroValue333
 t46:=Tryz.underlying289
 a46:=Tryz.isAgg289
 z46:=Tryz.sizeOf289
 v46:=Tryz.zeroValue289
 t53:=Tryz.underlying362
 a53:=Tryz.isAgg362
 z53:=Tryz.sizeOf362
 v53:=Tryz.zeroValue362
 t57:=Tryz.underlying366
 a57:=Tryz.isAgg366
 z57:=Tryz.sizeOf366
 v57:=Tryz.zeroValue366
 t63:=Tryz.underlying389
 a63:=Tryz.isAgg389
 z63:=Tryz.sizeOf389
 v63:=Tryz.zeroValue389
 t64:=Tryz.underlying99
 a64:=Tryz.isAgg99
 z64:=Tryz.sizeOf99
 v64:=Tryz.zeroValue99}
end Go.Proofs
