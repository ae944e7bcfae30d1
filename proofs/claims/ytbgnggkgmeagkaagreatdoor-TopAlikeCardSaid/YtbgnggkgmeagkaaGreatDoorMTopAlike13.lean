/-
  A part of the proof of TopAlike: each theorem states its own conditions.
-/
import Derived.ProofKit
import Derived.OpenShut
import Derived.ShutString
import Derived.SizedLaws
import Derived.Test.YtbgnggkgmeagkaaGreatDoorMTopAlike02
import Derived.Deep.SlicePairs
import Derived.Lib.SmallJoins
set_option linter.unusedSimpArgs false
set_option linter.unusedVariables false
set_option maxRecDepth 100000
set_option maxHeartbeats 16000000
namespace Go.Proofs.YtbgnggkgmeagkaaGreatDoor
open Go.Proofs.Tryz
section
open Go.ChangeShapes Go.WideShapes Go.ChangeAt Go.RowKit
open Go.ChangeMaps (open_string shut_string)
theorem prog_own :ownKnob prog.godebug=none:=by kernel_rfl
theorem Zgf :laidOutB prog=true:=by kernel_rfl
theorem Zva :prog.cellsOf 5=1:=by kernel_rfl
theorem bytes_u8 :prog.bytesOf 5=1:=by kernel_rfl
theorem u8_of_wf {z:Int}(h:(Lit.int .u8 z).wf=true):0<=z/\z<=255:=by
 simp[Lit.wf,IntKind.min,IntKind.max,IntKind.bits,IntKind.signed]at h
 omega
theorem Zl8 {W:World}{x:Addr}{zs:List Int}{n:Nat}(hn:n<=zs.length)(hcell:∀i,i < zs.length->W.cell? (x.add i)=some (.int .u8 (zs.getD i 0)))(hwz:∀n∈zs,(Lit.int .u8 n).wf=true):
  ∃l:List UInt8,l.length=n/\Zab W W.heap.size 1 (some x) n (bs l):=by
 refine⟨(zs.take n).map (fun z=>UInt8.ofNat z.toNat),by simp;omega,⟨by simp[bs];omega,fun h0=>⟨x,rfl,?_,?_⟩⟩⟩
 ·have h1:=World.block_lt_of_cell? W _ (hcell 0 (by omega))
  simpa [Addr.add]using h1
 ·intro j u hu
  have hj:j < (bs ((zs.take n).map (fun z=>UInt8.ofNat z.toNat))).length:=(List.getElem?_eq_some_iff.1 hu).1
  simp[bs]at hj
  have hz:=u8_of_wf (hwz (zs[j]'(by omega)) (List.getElem_mem _))
  rw[hcell j (by omega),<-hu]
  simp only[bs,List.map_map,List.getElem?_map]
  rw[List.getElem?_take,if_pos (by omega),List.getElem?_eq_getElem (by omega)]
  simp only[Option.map_some,Function.comp,UInt8.toNat_ofNat',List.getD_eq_getElem?_getD,List.getElem?_eq_getElem (show j < zs.length by omega),Option.getD_some]
  congr 2
  omega
section
variable {H:Type} {enc:TypeId×Value->H} {W:World} {ts:List TypeId} {ds:List (DataW H)} {base j:Nat} {v:Value} {d:DataW H} {p:List MemPlace}
end
end
section
open Go.ChangeShapes Go.WideShapes Go.ChangeAt Go.RowKit Go.Deep
open Go.ChangeMaps (open_string shut_string)
def Wok {H:Type}(t:TypeId)(d:DataW H):Prop:=∀n∈d.weights prog t,n<=reachBytes
section
variable {H:Type}
theorem wok_arg {ts:List TypeId}{ds:List (DataW H)}{j:Nat}{t:TypeId}{d:DataW H}(hsz:(DataW.weightsEach prog ts ds).all (·<=reachBytes)=true)(ht:ts[j]? =some t)(hd:ds[j]? =some d):Wok t d:=fun n hn=>by
 simpa using List.all_eq_true.1 hsz _ (DataW.weights_mem_each ht hd n hn)
theorem Zhi {e:TypeId}{d:DataW H}:∀{ds:List (DataW H)},d∈ds->∀n∈d.weights prog e,n∈DataW.weightsAll prog e ds
 | x::r,h,n,hn=>by
  simp only[DataW.weightsAll,List.mem_append]
  rcases List.mem_cons.1 h with rfl | h
  ·exact .inl hn
  ·exact .inr (Zhi h n hn)
theorem Zkj {t e:TypeId}{es sp:List (DataW H)}(h:Wok t (.slice es sp))(ht:prog.underlying t=some (.slice e)):(es.length+sp.length)*prog.bytesOf e<=reachBytes/\∀d∈es,Wok e d:=by
 refine⟨h _ (by simp[DataW.weights,ht]),fun d hd n hn=>h n ?_⟩
 simp only[DataW.weights,ht,List.mem_cons,List.mem_append]
 exact .inr (.inl (Zhi hd n hn))
theorem Zki {t:TypeId}{l:List UInt8}(h:Wok (H:=H) t (.lit (.string l))):l.length<=140737488351232:=by
 have:=h l.length (by simp[DataW.weights])
 simpa [reachBytes]using this
theorem wok_two {t:TypeId}{f0 f1:Field}{a b:DataW H}(h:Wok t (.agg [a,b]))(ht:prog.underlying t=some (.struct #[f0,f1])):Wok f0.type a/\Wok f1.type b:=by
 constructor
 ·intro n hn
  exact h n (by simp[DataW.weights,ht,DataW.weightsEach,hn])
 ·intro n hn
  exact h n (by simp[DataW.weights,ht,DataW.weightsEach,hn])
end
section
variable {H:Type} {enc:TypeId×Value->H} {W:World}
theorem Zec {n:Nat}{v:Value}{x:DataW H×List MemPlace}(h:DataW.trod enc prog W 0 (fun _=>true) true n 9 [v]=some x):∃l:List UInt8,v=.string ⟨l.toArray⟩/\x.1=.lit (.string l):=by
 obtain⟨s,h1,h2,_⟩:=DataW.trod_string underlying9 h
 refine⟨s.data.toList,?_,by rw[h2]⟩
 injection h1
theorem Zpr {A:Addr}{l:List Fld}(h:∀k (hk:k < l.length),W.cell? (A.add (k*2))=some (.string ⟨l[k].1.toArray⟩)/\W.cell? (A.add (k*2+1))=some (.string ⟨l[k].2.toArray⟩)):
  Zab W W.heap.size 2 (some A) l.length (fvs l):=by
 refine⟨Zfi l,fun h0=>⟨A,rfl,?_,fun j u hu=> ?_⟩⟩
 ·have:=World.block_lt_of_cell? W _ (h 0 h0).1
  rwa [Zbk]at this
 ·have hj:j < (fvs l).length:=(List.getElem?_eq_some_iff.1 hu).1
  rw[Zfi]at hj
  have hk:j / 2 < l.length:=by omega
  obtain⟨a0,a1⟩:=Zqd l hk
  obtain⟨c0,c1⟩:=h _ hk
  rcases(by omega:j=j / 2*2∨j=j / 2*2+1)with e | e
  ·rw[e,a0]at hu
   rw[e,c0]
   exact hu
  ·rw[e,a1]at hu
   rw[e,c1]
   exact hu
theorem Zqk :prog.underlying 22=some (.slice 41):=underlying22
theorem Zle {fuel:Nat}{cs:List Value}{x:DataW H×List MemPlace}(hf:DataW.trod enc prog W 0 (fun _=>true) true fuel 22 cs=some x)(hw:Wok 22 x.1):
  ∃A l c,cs=[.slice A l.length c]/\l.length<=c/\c*32<=140737488351232/\(∀f∈l,fOk f)/\Zab W W.heap.size 2 A l.length (fvs l):=by
 obtain⟨f0,f1,he,o0,o1,c0,c1,t0,t1⟩:∃f0 f1:Field,prog.underlying 41=some (.struct #[f0,f1])/\f0.offset=0/\f1.offset=1/\prog.cellsOf f0.type=1/\prog.cellsOf f1.type=1/\f0.type=9/\f1.type=9:=
  ⟨_,_,underlying41,rfl,rfl,by kernel_rfl,by kernel_rfl,rfl,rfl⟩
 rcases open_slice_pairs Zqk he (by kernel_rfl) o0 o1 c0 c1 hf with⟨rfl,_⟩ | ⟨a,len,cap,m,n,V0,V1,D0,D1,P0,P1,rfl,hb,hl,hm,hmm,rfl,hx⟩
 ·exact⟨none,[],0,rfl,Nat.le_refl _,by omega,by simp,Zab.none_⟩
 ·simp only[if_true]at hmm
  subst hmm
  rw[t0,t1]at hx
  obtain⟨hw1,hw2⟩:=Zkj hw Zqk
  simp only[List.length_map,List.length_range]at hw1
  rw[show prog.bytesOf 41=32 by kernel_rfl]at hw1
  have each:∀i,i < len->∃f:Fld,(V0 i=.string ⟨f.1.toArray⟩/\V1 i=.string ⟨f.2.toArray⟩)/\fOk f:=by
   intro i hi
   obtain⟨_,_,h0,h1⟩:=hx i (by omega)
   obtain⟨l0,e0,d0⟩:=Zec h0
   obtain⟨l1,e1,d1⟩:=Zec h1
   have:=wok_two (hw2 (.agg [D0 i,D1 i]) (List.mem_map.2 ⟨i,List.mem_range.2 hi,rfl⟩)) he
   simp only at d0 d1
   rw[d0,d1,t0,t1]at this
   have l0':=Zki this.1
   have l1':=Zki this.2
   exact⟨(l0,l1),⟨e0,e1⟩,by simp only;omega,by simp only;omega⟩
  obtain⟨F,hF⟩:=choose_lt each
  have hlen:((List.range len).map F).length=len:=by simp
  refine⟨some a,(List.range len).map F,m,by rw[hlen],by omega,?_,?_,?_⟩
  ·simp only[reachBytes]at hw1
   have:len+(m-len)=m:=by omega
   rw[this]at hw1
   omega
  ·intro f hf
   obtain⟨i,hi,rfl⟩:=List.mem_map.1 hf
   exact(hF i (List.mem_range.1 hi)).2
  ·refine Zpr fun k hk=> ?_
   rw[hlen]at hk
   obtain⟨h0,h1,_,_⟩:=hx k (by omega)
   have:=(hF k hk).1
   simp only[List.getElem_map,List.getElem_range]
   rw[h0,h1,this.1,this.2]
   exact⟨rfl,rfl⟩
end
end
end Go.Proofs.YtbgnggkgmeagkaaGreatDoor
