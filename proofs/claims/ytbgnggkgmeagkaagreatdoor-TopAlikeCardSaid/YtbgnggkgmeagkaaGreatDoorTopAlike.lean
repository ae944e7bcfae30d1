/-
  The law TopAlike returns true for every input, and what was in memory stays as it was. Condition: the row's own, that the listed tables of Go's library read as the program's text lays them (tied by the card).
-/
import Derived.Test.YtbgnggkgmeagkaaGreatDoorCards
import Derived.Test.YtbgnggkgmeagkaaGreatDoorTie
import Derived.Test.YtbgnggkgmeagkaaGreatDoorMTopAlike36
import Derived.Test.YtbgnggkgmeagkaaGreatDoorMTopAlikeTaf
import Derived.Deep.DeepHandedRow
set_option linter.unusedSimpArgs false
set_option linter.unusedVariables false
set_option maxRecDepth 100000
set_option maxHeartbeats 16000000
namespace Go.Proofs.YtbgnggkgmeagkaaGreatDoor
open Go.Proofs.Tryz
open Go.ChangeShapes Go.WideShapes Go.ChangeAt Go.RowKit
theorem Zi0 (H:Type)(enc:TypeId×Value->H)(W:World)(base:Nat)(args:Array Value)(ds gs:List (DataW H))(before:List MemPlace)
  (hval:∀(j:Nat) t v,Tryz.f4.params[j]? =some t->args[j]? =some v->Value.okWide prog W .any base t v)
  (hW:DataW.Whole enc prog Tryz.f4.params.toList Rows.topAlikeSpec.vars false W args.toList ds gs before)
  (hsz0:(DataW.weightsEach prog (Tryz.f4.params.toList++(OpenSpec.ofChange Rows.topAlikeSpec).bare.plain.varTypes prog) (ds++gs)).all (·<=reachBytes)=true)
  (hL0:laidMetH prog Rows.topAlikeRow.laid W) (hsh:W.ShapedOpen prog)
  :CA 4 args W fun e W'=>∃v,e=.returned v/\Rows.topAlikeSpec.post enc prog Tryz.f4 false true false false W args v W':=by
 have hsz:(DataW.weightsEach prog (Tryz.f4.params.toList++Rows.topAlikeSpec.plain.varTypes prog) (ds++gs)).all (·<=reachBytes)=true:=hsz0
 clear hsz0
 have hL:=hL0
 rw[Go.MakeChecks.laidMetH_plain _ _ _ (by kernel_rfl)]at hL
 have hW':=hW
 obtain⟨p,q,hA0,hV,rfl,hfz,hnd⟩:=hW
 have hA:DataW.TrodAll enc prog W 0 (fun _=>true) true Tryz.f4.params.toList args.toList ds p:=hA0
 rw[Tryz.params4]at hA hval hsz
 obtain⟨v0,vs0,d0,ds0,p0,q0,hargs,rfl,rfl,h0,r0⟩:=trodAll_cons hA
 obtain⟨v1,vs1,d1,ds1,p1,q1,rfl,rfl,rfl,h1,r1⟩:=trodAll_cons r0
 obtain⟨v2,vs2,d2,ds2,p2,q2,rfl,rfl,rfl,h2,r2⟩:=trodAll_cons r1
 obtain⟨rfl,rfl,rfl⟩:=trodAll_nil r2
 obtain rfl:args= #[v0,v1,v2]:=by cases args;simp_all
 obtain⟨rfl,rfl⟩:=trodVars_none hV
 have k0:=h0
 have k1:=h1
 have k2:=h2
 have lt0:∀x∈p0,x.block < W.heap.size:=by obtain⟨m,hm⟩:=k0;exact DataW.trod_lt m _ _ _ hm
 have lt1:∀x∈p1,x.block < W.heap.size:=by obtain⟨m,hm⟩:=k1;exact DataW.trod_lt m _ _ _ hm
 have lt2:∀x∈p2,x.block < W.heap.size:=by obtain⟨m,hm⟩:=k2;exact DataW.trod_lt m _ _ _ hm
 obtain⟨A,rqs,c,rfl,hc,hl,hr⟩:=Zzf (hval 0 45 v0 rfl rfl) h0 hsz (j:=0) rfl rfl
 obtain⟨z1,rfl,rfl,rfl,-⟩:=open_int underlying3 (hval 1 3 v1 rfl rfl) h1
 obtain⟨z2,rfl,rfl,rfl,-⟩:=open_int underlying3 (hval 2 3 v2 rfl rfl) h2
 clear hA0
 refine(Zxd one_ok rqs z1 z2 A _ c rfl hl hc W (Zr6 hL) (Zoa hsh) (Zs2 hL) hr).mono fun e W' ⟨he,bel⟩=> ?_
 subst he
 exact⟨_,rfl,_,_,_,[],_,[],hW',trodAll_mk1 (shut_bool underlying4 _),(trodAll_cons_mk (Below.trod Zgf (by kernel_rfl) (of_decide_eq_true (by kernel_rfl)) k0 bel lt0) (trodAll_cons_mk (Below.trod Zgf (by kernel_rfl) (of_decide_eq_true (by kernel_rfl)) k1 bel lt1) (trodAll_cons_mk (Below.trod Zgf (by kernel_rfl) (of_decide_eq_true (by kernel_rfl)) k2 bel lt2) trodAll_mk0))),rfl,bel.frame _,fun h=>by cases h⟩
def wreq :Array Value:= #[.slice none 0 0,.int .i64 0,.int .i64 0]
theorem Zl4 (os:Os){H:Type}(enc:TypeId×Value->H):∃places,DataW.whole enc prog ((Zgh os).forCall (fun _ _=>0) ⟨#[],wreq,[]⟩).memory Tryz.f4.params.toList Rows.topAlikeSpec.vars false wreq.toList 8=some ([.nil,.lit (.int .i64 0),.lit (.int .i64 0)],[],places):=
 ⟨[],by kernel_rfl⟩
theorem Zkk (os:Os)(started:os.Started)(H:Type)(enc:TypeId×Value->H)(F:Stop.Interp):
  ReturnsInHanded {} Tryz.checked os 4 .any ((OpenSpec.ofChange Rows.topAlikeSpec).preRow enc prog Tryz.f4 Rows.topAlikeRow.domain false Rows.topAlikeRow.laid) (((OpenSpec.ofChange Rows.topAlikeSpec).at F).post enc prog Tryz.f4 false true false false):=by
 obtain⟨places,hx⟩:=Zl4 os enc
 have hok:Input.okWideB Tryz.checked.prog ((Zgh os).forCall (fun _ _=>0) ⟨#[],wreq,[]⟩) 4 ⟨#[],wreq,[]⟩=true:=by kernel_rfl
 refine returnsInHanded_of_row (C:=Tryz.checked) (s:=(OpenSpec.ofChange Rows.topAlikeSpec)) prog_own started (by kernel_rfl) func4
  ⟨Zgh os,fun _ _=>0,⟨#[],wreq,[]⟩,World.laidAll_os _ _ _,Zjx os wreq,(Input.okWide_of_okWideB (base:=0) hok).1,(Input.okWide_of_okWideB hok).2,
   OpenSpec.preRow_of_cond 8 hx (by kernel_rfl) (fun k hk=>by cases hk) (by kernel_rfl) (Zoc os wreq),by
    simp only[Assume.holds]
    exact⟨by simp,by simp,fun _=>Modest.zero,by simp,by simp⟩⟩ ?_
 intro W base args ds gs before hval hW _ _ hsz hL hsh _
 exact Zi0 H enc W base args ds gs before hval hW hsz hL hsh
theorem Znm :Rows.TopAlikeSaid:=
 OpenClaim.holds_of_cond 4 Tryz.f4 rfl rfl rfl rfl rfl rfl rfl ⟨rfl,rfl,rfl,rfl,rfl⟩ rfl rfl rfl rfl rfl (by kernel_rfl) func4 Zyc
  (of_decide_eq_true (by kernel_rfl)) (by unfold Func.isWrapper;first | (rw[if_pos (by decide+kernel)];kernel_rfl) | (rw[if_neg (by decide+kernel)];exact⟨rfl,rfl⟩))
  (fun os started H enc _ F=>by rw[OpenClaim.pre_eq_preRow];exact Zkk os started H enc F)
theorem Zl5 (f:FuncId)(fn:Func)(hf:Tryz.pinned.checked.prog.funcNamed "tollgate/tolltop.TopAlike"=some f)(hfn:Tryz.pinned.checked.prog.funcs[f]? =some fn):
  true=Tryz.pinned.checked.prog.looks []/\∀(j:Nat) t,fn.params[j]? =some t->Tryz.pinned.checked.prog.wantsStandIn t=false:=by
 obtain rfl:f=4:=Option.some.inj ((show prog.funcNamed "tollgate/tolltop.TopAlike"=some 4 by kernel_rfl).symm.trans hf) |>.symm
 obtain rfl:fn=Tryz.f4:=(Option.some.inj (func4.symm.trans hfn)).symm
 refine⟨by kernel_rfl,fun j t ht=> ?_⟩
 rw[Tryz.params4]at ht
 have hm:t∈([45,3,3]:List TypeId):=by
  have h2:=Array.mem_of_getElem? ht
  simpa using h2
 have hall:∀t∈([45,3,3]:List TypeId),prog.wantsStandIn t=false:=by
  intro t ht
  simp only[List.mem_cons,List.not_mem_nil,or_false]at ht
  rcases ht with rfl | rfl | rfl
  all_goals kernel_rfl
 exact hall t hm
theorem topAlike_card :Rows.TopAlikeCardSaid:=
 Claim7.holds_tied_plain_at .later [] _ _ _ _ Znm (fun _ h=>by cases h) (by kernel_rfl) (fun _ h=>by cases h) topAlike_row_tie rfl ⟨rfl,rfl⟩ (by kernel_rfl) rfl Zl5 (by kernel_rfl)
#print axioms topAlike_card
end Go.Proofs.YtbgnggkgmeagkaaGreatDoor
