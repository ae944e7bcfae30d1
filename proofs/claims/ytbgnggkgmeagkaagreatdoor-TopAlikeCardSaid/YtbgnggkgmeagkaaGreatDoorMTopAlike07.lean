/-
  A part of the proof of TopAlike: each theorem states its own conditions.
-/
import Derived.Lib.Overlaps
import Derived.Lib.AppendZerosOnto
import Derived.Laws.Externs
import Derived.Laws.CopyRow
import Derived.Test.YtbgnggkgmeagkaaGreatDoorMTopAlike06
import Derived.StillTailTactics
import Derived.Deep.CutRange
set_option linter.unusedSimpArgs false
set_option linter.unusedVariables false
set_option maxRecDepth 100000
set_option maxHeartbeats 16000000
namespace Go.Proofs.YtbgnggkgmeagkaaGreatDoor
open Go.Proofs.Tryz
section
open Go.RowKit
attribute [local go_sem ↓] Go.wp_at_zero Go.wp_at_succ
theorem Zd2 {P:Program}(w:World)(dT sT ty elem:TypeId)(size:Nat)(g o dLen dCap:Nat)(a:Addr)(sLen sCap:Nat)(cur:Array Value)(t:TypeId)(cs:List Value)
  (hu:P.underlying dT=some (.slice elem)) (hs:(P.info? elem).map (·.size)=some size)
  (hg:w.heap[g]? =some (.cells cur t (0,0))) (hn:cs.length=Nat.min sLen dLen*size)
  (hsrc:∀j v,cs[j]? =some v->w.cell? (a.add j)=some v) (hfit:o+cs.length<=cur.size) (h1:∀v∈cs,v.oneCell'=true):
  (Builtin.copy_ #[dT,sT] ty #[.slice (some ⟨g,o,none⟩) dLen dCap,.slice (some a) sLen sCap]).run P w=
   .ok (goInt (Nat.min sLen dLen)) (w.setRow g (cur.toList.take o++cs++cur.toList.drop (o+cs.length)).toArray):=by
 have hl:=run_firstCells_some (P:=P) w size (Nat.min sLen dLen) a sLen sCap cs hn hsrc
 have hst:=run_storeCells_at P g o t cs 0 cur w hg (by simpa using hfit) h1
 cases hq:P.info? elem with
 | none=>simp[hq]at hs
 | some i=>
  have hi:i.size=size:=by simpa [hq]using hs
  simp[Builtin.copy_,run_underlying hu,Builtin.lenOf,sizeOf,typeInfo,hq,hi,hl,hst]
theorem Zj7 :(prog.info? 41).map (·.size)=some 2:=by kernel_rfl
theorem Zww (w:World):(Go.sizeOf 41).run prog w=.ok 2 w:=by kernel_rfl
theorem Zpy (args:Array Value)(w:World):(callFunc 147 args).run prog w=((Extern.SlicesOverlaps.overlaps #[22,22] #[4] args).run prog w).andThen fun v w'=> .ok (.value v) w':=
 run_callFunc_extern func147 (by kernel_rfl) (by kernel_rfl) (by kernel_rfl) (by kernel_rfl) args w
def Zhd (w w':World)(A:Option Addr)(v:Value)(f:Fld)(xs:List Fld):Prop:=
 ∃A' c',v=.slice A' (xs.length+1) c'/\w'.ownsRow 0 41 2 (.slice A' (xs.length+1) c') (xs.length+1) (fvs (f::xs))/\Zax (fun k=>∃a,A=some a/\k=a.block) w w'/\
  (∀a,A'=some a->(∃b,A=some b/\a.block=b.block)∨w.heap.size<=a.block)
theorem Zwh {w:World}{A:Option Addr}{c:Nat}(h:w.ownsRow 0 41 2 (.slice A 0 c) 0 (fvs []))(f:Fld)(vb:Nat)(hv:Blk w vb 41 #[.string ⟨f.1.toArray⟩,.string ⟨f.2.toArray⟩]):
  CA 93 #[.slice A 0 c,.int .i64 0,.slice (some ⟨vb,0,none⟩) 1 1] w fun e w'=>∃v,e=.returned v/\Zhd w w' A v f []:=by
 obtain⟨i0,hi,hz0,hz1,hz2⟩:=info_parts Zdm
 have hc:c<=9223372036854775807:=by
  rcases h.2 with⟨he,_⟩ | ⟨_,cap,cur,he,_,_,_,hm,_⟩
  ·injection he with _ _ hc;omega
  ·injection he with _ _ hc;unfold maxLen at hm;omega
 have hr:Zab w (vb+1) 2 (some ⟨vb,0,none⟩) 1 (fv f):=by
  refine⟨rfl,fun _=>⟨_,rfl,by simp,fun j u hu=> ?_⟩⟩
  rw[Addr.add_lit,Nat.zero_add,hv.cell]
  simpa [fv]using hu
 have h1:∀u∈fv f,u.oneCell'=true:=by
  intro u hu
  simp only[fv,List.mem_cons,List.not_mem_nil,or_false]at hu
  rcases hu with rfl | rfl <;> rfl
 have HH:=Hd h
 have HI:=Hd hi
 have HZ0:=Hd hz0
 have HZ1:=Hd hz1
 have HZ2:=Hd hz2
 clear hi hz0 hz1 hz2 hv h
 go_enter func93,ntmps93
 go_wp2_with (at_builtin;refine Zah _ rfl _ _ 22 rfl 0 41 i0 (.agg #[.string ⟨#[]⟩,.string ⟨#[]⟩]) 2 32 underlying22 HI.out HZ0.out HZ1.out HZ2.out rfl (by decide) (.slice A 0 c) 0 (fvs []) rfl HH.out (vb+1) (some ⟨vb,0,none⟩) 1 1 (fv f) rfl hr h1 (by unfold maxLen;omega) (by omega) (Nat.zero_le _) ?_;intro v2 w2 hown2 hg2 hat2)
 go_ret
 obtain⟨g2,cap2,hv2,_,_⟩:=hown2.form (by omega)
 subst hv2
 refine⟨_,rfl,some ⟨g2,0,none⟩,cap2,by rfl,hown2,(Zax.refl _ _).grown hg2 fun k hk=> ?_,fun a ha=> ?_⟩
 ·cases A with
  | none=>simp[Value.ownBlock]at hk
  | some a=>exact .inl ⟨a,rfl,by simpa [Value.ownBlock]using hk.symm⟩
 ·cases ha
  rcases hat2 with hat2 | hat2
  ·cases A with
   | none=>simp[Value.ownBlock]at hat2
   | some a=>exact .inl ⟨a,rfl,by simpa [Value.ownBlock]using hat2⟩
  ·have he2:g2=w.heap.size:=by simpa [Value.ownBlock]using hat2
   exact .inr (Nat.le_of_eq he2.symm)
theorem Zax.setRow {S:Nat->Prop}{w w1:World}(h:Zax S w w1){g:Nat}(hg:S g∨w.heap.size<=g)(cs:Array Value):Zax S w (w1.setRow g cs):=
 ⟨h.os,h.tape,h.output,by simpa [World.setRow]using h.size,fun k hk hS=>(setRow_other w1 g k cs (by rintro rfl;rcases hg with h1 | h1;exact hS h1;omega)).trans (h.block k hk hS)⟩
theorem Zsi {w:World}{A:Option Addr}{c:Nat}{xs:List Fld}(h:w.ownsRow 0 41 2 (.slice A xs.length c) xs.length (fvs xs))(hn0:0 < xs.length)(hroom:xs.length+1<=c)(hm:xs.length<=1000)(f:Fld)(vb:Nat)(hv:Blk w vb 41 #[.string ⟨f.1.toArray⟩,.string ⟨f.2.toArray⟩])(hne:∀a,A=some a->a.block≠vb):
  CA 93 #[.slice A xs.length c,.int .i64 0,.slice (some ⟨vb,0,none⟩) 1 1] w fun e w'=>∃v,e=.returned v/\Zhd w w' A v f xs:=by
 rcases h.2 with⟨_,h0⟩ | ⟨g,cap,cur,he,_,hg,_,hcm,hsz,htk⟩
 ·omega
 injection he with hA _ hcc
 subst hA
 subst hcc
 have hgv:vb≠g:=fun e=>hne _ rfl e.symm
 unfold maxLen at hcm
 obtain⟨n,hn⟩:=exl (xs.length)
 have hfl:=Zfi xs
 rw[hn]at hfl htk hn0 hroom hm⊢
 have h1x:=Zog xs
 have h1f:∀u∈fv f,u.oneCell'=true:=by
  intro u hu
  simp only[fv,List.mem_cons,List.not_mem_nil,or_false]at hu
  rcases hu with rfl | rfl <;> rfl
 have hov:∀lb cb,(callFunc 147 #[.slice (some ⟨vb,0,none⟩) 1 1,.slice (some ⟨g,2,none⟩) lb cb]).run prog w=.ok (.value (.bool false)) w:=by
  intro lb cb
  rw[Zpy,Lib.run_overlaps_apart w 22 4 41 underlying22 2 Zww ⟨vb,0,none⟩ ⟨g,2,none⟩ 1 1 lb cb hgv 41 41 2 cur.size ?_ ?_ (by omega) (hv.frozen 0) (hv.frozen 2)]
  ·rfl
  ·unfold Blk at hv;simp[World.shape?,hv]
  ·simp[World.shape?,hg]
 have hcell:∀j u,(fvs xs)[j]? =some u->w.cell? ((⟨g,0,none⟩:Addr).add j)=some u:=h.cells rfl
 have hcp1:∀ty dc sc,(Builtin.copy_ #[22,22] ty #[.slice (some ⟨g,2,none⟩) n dc,.slice (some ⟨g,0,none⟩) (n+1) sc]).run prog w.drew=.ok (goInt n) (w.drew.setRow g (cur.toList.take 2++fvs xs++cur.toList.drop (2+(fvs xs).length)).toArray):=by
  intro ty dc sc
  have hmin:Nat.min (n+1) n=n:=by simp only[Nat.min_def];split <;> omega
  have:=Zd2 (P:=prog) w.drew 22 22 ty 41 2 g 2 n dc ⟨g,0,none⟩ (n+1) sc cur 41 (fvs xs) underlying22 Zj7 hg (by rw[hmin];exact hfl) hcell (by rw[hfl,hsz];omega) h1x
  rw[hmin]at this
  exact this
 obtain⟨C1,hC1⟩:=exl ((cur.toList.take 2++fvs xs++cur.toList.drop (2+(fvs xs).length)).toArray)
 rw[hC1]at hcp1
 obtain⟨W1,hW1⟩:=exl (w.drew.setRow g C1)
 have hg1:W1.heap[g]? =some (.cells C1 41 (0,0)):=by rw[<-hW1];exact setRow_heap w.drew g cur C1 _ _ hg
 have hv1:Blk W1 vb 41 #[.string ⟨f.1.toArray⟩,.string ⟨f.2.toArray⟩]:=by
  unfold Blk
  rw[<-hW1,setRow_other w.drew g vb C1 hgv]
  exact hv
 have hC1s:C1.size=c*2:=by
  rw[<-hC1]
  simp only[List.size_toArray,List.length_append,List.length_take,List.length_drop,Array.length_toList]
  omega
 have hcp2:∀ty dc,(Builtin.copy_ #[22,22] ty #[.slice (some ⟨g,0,none⟩) (n+1) dc,.slice (some ⟨vb,0,none⟩) 1 1]).run prog W1=.ok (goInt 1) (W1.setRow g (C1.toList.take 0++fv f++C1.toList.drop (0+(fv f).length)).toArray):=by
  intro ty dc
  have hmin:Nat.min 1 (n+1)=1:=by simp only[Nat.min_def];split <;> omega
  have:=Zd2 (P:=prog) W1 22 22 ty 41 2 g 0 (n+1) dc ⟨vb,0,none⟩ 1 1 C1 41 (fv f) underlying22 Zj7 hg1 (by rw[hmin];rfl) (fun j u hu=>by
   rw[Addr.add_lit,Nat.zero_add,hv1.cell]
   simpa [fv]using hu) (by rw[hC1s];simp[fv];omega) h1f
  rw[hmin]at this
  exact this
 have hfin:Zhd w (W1.setRow g (C1.toList.take 0++fv f++C1.toList.drop (0+(fv f).length)).toArray) (some ⟨g,0,none⟩) (.slice (some ⟨g,0,none⟩) (n+1) c) f xs:=by
  refine⟨some ⟨g,0,none⟩,c,by rw[hn],?_,?_,fun a ha=> .inl ⟨_,rfl,by cases ha;rfl⟩⟩
  ·rw[hn]
   refine⟨by rw[Zc5,List.length_append,hfl];simp[fv];omega,.inr ⟨g,c,_,rfl,Nat.zero_le _,setRow_heap W1 g C1 _ _ _ hg1,hroom,by unfold maxLen;omega,?_,?_⟩⟩
   ·simp only[List.size_toArray,List.length_append,List.length_take,List.length_drop,Array.length_toList]
    simp[fv]
    omega
   ·rw[List.toList_toArray,Zc5,<-hC1]
    have e2:(cur.toList.take 2).length=2:=by simp;omega
    simp only[List.take_zero,List.nil_append,List.toList_toArray,Nat.zero_add]
    have e3:(fv f).length=2:=rfl
    rw[e3,List.append_assoc,List.drop_append_of_le_length (by omega),List.drop_of_length_le (by omega),List.nil_append,<-List.append_assoc,List.take_append_of_le_length (by rw[List.length_append,e3,hfl];omega),List.take_of_length_le (by rw[List.length_append,e3,hfl];omega)]
  ·rw[<-hW1]
   exact(((Zax.refl _ _).drew).setRow (.inl ⟨_,rfl,rfl⟩) _).setRow (.inl ⟨_,rfl,rfl⟩) _
 obtain⟨W2,hW2⟩:=exl (W1.setRow g (C1.toList.take 0++fv f++C1.toList.drop (0+(fv f).length)).toArray)
 rw[hW2]at hcp2 hfin
 rw[hW1]at hcp1
 have HF:=Hd hfin
 have hc1:(1:Int)<=(c:Int):=by omega
 have hc2:¬(c=1):=by omega
 have hc3:¬(c=0):=by omega
 have hn1:decide ((c:Int) < (n:Int)+1)=false:=by simp;omega
 have hw1:IntKind.i64.wrap 1=1:=by decide
 have hb1:(1:Int)<=(n:Int)+1:=by omega
 have hb0:(0:Int)<=(n:Int)+1:=by omega
 clear hfin hW2 hW1 hC1 hC1s hg1 hv1 hcell htk hsz hfl hn h1x h1f hv h hg
 go_enter func93,ntmps93
 go_wp2_with (simp only[hov])
 go_region_law (refine step_copy_runK rfl _ _ 22 22 rfl _ _ (by simp[Act.eval,Act.put]) (by simp[Act.eval,Act.put]) (hcp1 _ _ _) ?_)
 go_wp2_with (at_builtin;refine wpList_copy_runK _ rfl _ _ 22 22 rfl _ _ rfl rfl (hcp2 _ _) ?_)
 go_ret
 exact⟨_,rfl,HF.out⟩
theorem Zsj {w:World}{A:Option Addr}{c:Nat}{xs:List Fld}(h:w.ownsRow 0 41 2 (.slice A xs.length c) xs.length (fvs xs))(hn0:0 < xs.length)(hroom:c < xs.length+1)(hm:xs.length<=1000)(f:Fld)(vb:Nat)(hv:Blk w vb 41 #[.string ⟨f.1.toArray⟩,.string ⟨f.2.toArray⟩]):
  CA 93 #[.slice A xs.length c,.int .i64 0,.slice (some ⟨vb,0,none⟩) 1 1] w fun e w'=>∃v,e=.returned v/\Zhd w w' A v f xs:=by
 obtain⟨i0,hi,hz0,hz1,hz2⟩:=info_parts Zdm
 obtain⟨g,cap,he,_,hlt⟩:=h.form hn0
 injection he with hA _ hcc
 subst hA
 subst hcc
 have hnc:xs.length<=c:=by
  rcases h.2 with⟨he,_⟩ | ⟨_,_,_,he,_,_,hh,_⟩
  ·cases he
  ·injection he with _ _ hcc;omega
 obtain⟨n,hn⟩:=exl (xs.length)
 have hfl:=Zfi xs
 have hcell:∀j u,(fvs xs)[j]? =some u->w.cell? ((⟨g,0,none⟩:Addr).add j)=some u:=h.cells rfl
 rw[hn]at hfl hn0 hroom hm hnc⊢
 have h1x:=Zog xs
 have h1f:∀u∈fv f,u.oneCell'=true:=by
  intro u hu
  simp only[fv,List.mem_cons,List.not_mem_nil,or_false]at hu
  rcases hu with rfl | rfl <;> rfl
 have hG:=grownCap_ge w (n+1) c 41
 have hG63:=grownCap_le_maxLen w (n+1) c 41 (by unfold maxLen;omega)
 have hap0:=fun ty=>Lib.run_append_grow_zeros (P:=prog) w 22 3 ty 41 i0 (.agg #[.string ⟨#[]⟩,.string ⟨#[]⟩]) .i64 .i64 underlying22 underlying3 hi hz0 (some ⟨g,0,none⟩) 0 c [] (run_firstCells_some w.drew i0.size 0 ⟨g,0,none⟩ 0 c [] (by simp) (fun j v hj=>by simp at hj)) (n+1) (by omega) (by omega) (by omega) (by omega) (by rw[hz2];omega)
  (growslice_fits (by omega) (by rw[hz2];omega))
 simp only[Nat.zero_add]at hap0
 obtain⟨G,hGe⟩:=exl (grownCap w (n+1) c 41)
 rw[hGe]at hG hG63 hap0
 obtain⟨Z,hZ⟩:=exl (([]:List Value).toArray++Builtin.zeroCells (.agg #[.string ⟨#[]⟩,.string ⟨#[]⟩]:Value).cells (n+1)++Builtin.zeroCells (.agg #[.string ⟨#[]⟩,.string ⟨#[]⟩]:Value).cells (G-(n+1)))
 have hZs:Z.size=G*2:=by
  rw[<-hZ,Array.size_append,Array.size_append,Zce,Zce]
  have:(.agg #[.string ⟨#[]⟩,.string ⟨#[]⟩]:Value).cells.size=2:=by rfl
  rw[this]
  simp
  omega
 rw[hZ]at hap0
 obtain⟨W0,hW0⟩:=exl (w.drew.alloc (.cells Z 41))
 have hh0:W0.heap[w.heap.size]? =some (.cells Z 41 (0,0)):=by rw[<-hW0];exact heap_alloc_new w.drew _
 have hv0:Blk W0 vb 41 #[.string ⟨f.1.toArray⟩,.string ⟨f.2.toArray⟩]:=by rw[<-hW0];exact hv.drew.alloc _
 have hb0:Below w.heap.size w W0:=by rw[<-hW0];exact((Below.refl _ _).drew).alloc (Nat.le_refl _) _
 have hap:∀ty,(Builtin.append_ #[22,3] ty #[.slice (some ⟨g,0,none⟩) 0 c,.int .i64 ((n:Int)+1)]).run prog w=.ok (.slice (some ⟨w.heap.size,0,none⟩) (n+1) G) W0:=by
  intro ty
  have:=hap0 ty
  rw[hW0]at this
  rw[<-this]
  congr 5
 have hcp1:∀ty dc,(Builtin.copy_ #[22,22] ty #[.slice (some ⟨w.heap.size,0,none⟩) (n+1) dc,.slice (some ⟨vb,0,none⟩) 1 1]).run prog W0=.ok (goInt 1) (W0.setRow w.heap.size (Z.toList.take 0++fv f++Z.toList.drop (0+(fv f).length)).toArray):=by
  intro ty dc
  have hmin:Nat.min 1 (n+1)=1:=by simp only[Nat.min_def];split <;> omega
  have:=Zd2 (P:=prog) W0 22 22 ty 41 2 w.heap.size 0 (n+1) dc ⟨vb,0,none⟩ 1 1 Z 41 (fv f) underlying22 Zj7 hh0 (by rw[hmin];rfl) (fun j u hu=>by
   rw[Addr.add_lit,Nat.zero_add,hv0.cell]
   simpa [fv]using hu) (by rw[hZs];simp[fv];omega) h1f
  rw[hmin]at this
  exact this
 obtain⟨C1,hC1⟩:=exl ((Z.toList.take 0++fv f++Z.toList.drop (0+(fv f).length)).toArray)
 rw[hC1]at hcp1
 obtain⟨W1,hW1⟩:=exl (W0.setRow w.heap.size C1)
 have hh1:W1.heap[w.heap.size]? =some (.cells C1 41 (0,0)):=by rw[<-hW1];exact setRow_heap W0 _ Z C1 _ _ hh0
 have hC1s:C1.size=G*2:=by
  rw[<-hC1]
  simp only[List.size_toArray,List.length_append,List.length_take,List.length_drop,Array.length_toList]
  simp[fv]
  omega
 have hb1:Below w.heap.size w W1:=by
  rw[<-hW1]
  exact hb0.trans ⟨rfl,rfl,rfl,by simp[World.setRow],fun k hk=>setRow_other W0 _ k C1 (by omega)⟩
 have hcp2:∀ty dc sc,(Builtin.copy_ #[22,22] ty #[.slice (some ⟨w.heap.size,2,none⟩) n dc,.slice (some ⟨g,0,none⟩) n sc]).run prog W1.drew=.ok (goInt n) (W1.drew.setRow w.heap.size (C1.toList.take 2++fvs xs++C1.toList.drop (2+(fvs xs).length)).toArray):=by
  intro ty dc sc
  have hmin:Nat.min n n=n:=by simp only[Nat.min_def];split <;> omega
  have:=Zd2 (P:=prog) W1.drew 22 22 ty 41 2 w.heap.size 2 n dc ⟨g,0,none⟩ n sc C1 41 (fvs xs) underlying22 Zj7 hh1 (by rw[hmin];exact hfl) (fun j u hu=>(hb1.cell (p:=(⟨g,0,none⟩:Addr).add j) (by rw[Zbk];exact Nat.lt_of_lt_of_le hlt (Nat.le_refl _))).trans (hcell j u hu)) (by rw[hfl,hC1s];omega) h1x
  rw[hmin]at this
  exact this
 have hfin:Zhd w (W1.drew.setRow w.heap.size (C1.toList.take 2++fvs xs++C1.toList.drop (2+(fvs xs).length)).toArray) (some ⟨g,0,none⟩) (.slice (some ⟨w.heap.size,0,none⟩) (n+1) G) f xs:=by
  refine⟨some ⟨w.heap.size,0,none⟩,G,by rw[hn],?_,?_,fun a ha=> .inr (by cases ha;exact Nat.le_refl _)⟩
  ·rw[hn]
   refine⟨by rw[Zc5,List.length_append,hfl];simp[fv];omega,.inr ⟨w.heap.size,G,_,rfl,Nat.zero_le _,setRow_heap W1.drew _ C1 _ _ _ hh1,hG,hG63,?_,?_⟩⟩
   ·simp only[List.size_toArray,List.length_append,List.length_take,List.length_drop,Array.length_toList]
    omega
   ·rw[List.toList_toArray,Zc5,<-hC1]
    have e3:(fv f).length=2:=rfl
    simp only[List.take_zero,List.nil_append,List.toList_toArray,Nat.zero_add,e3]
    have e4:(fv f++Z.toList.drop 2).take 2=fv f:=by
     rw[List.take_append_of_le_length (by rw[e3];exact Nat.le_refl _),List.take_of_length_le (by rw[e3];exact Nat.le_refl _)]
    rw[e4,List.take_append_of_le_length (by rw[List.length_append,e3,hfl];omega),List.take_of_length_le (by rw[List.length_append,e3,hfl];omega)]
  ·have:Below w.heap.size w (W1.drew.setRow w.heap.size (C1.toList.take 2++fvs xs++C1.toList.drop (2+(fvs xs).length)).toArray):=
    (hb1.drew).trans ⟨rfl,rfl,rfl,by simp[World.setRow],fun k hk=>setRow_other W1.drew _ k _ (by omega)⟩
   exact Zax.of_below this
 obtain⟨W2,hW2⟩:=exl (W1.drew.setRow w.heap.size (C1.toList.take 2++fvs xs++C1.toList.drop (2+(fvs xs).length)).toArray)
 rw[hW2]at hcp2 hfin
 rw[hW1]at hcp1
 have HF:=Hd hfin
 have hn1:decide ((c:Int) < (n:Int)+1)=true:=by simp;omega
 have hw1:IntKind.i64.wrap 1=1:=by decide
 have hk1:(1:Int)<=(n:Int)+1:=by omega
 have hk0:(0:Int)<=(n:Int)+1:=by omega
 have hG1:¬(G=1):=by omega
 have hG0:¬(G=0):=by omega
 have hc0:¬(c=0):=by omega
 unfold maxLen at hG63
 clear hfin hW2 hW1 hC1 hC1s hh1 hh0 hv0 hv hcell hfl hn h1x h1f h hap0 hZ hZs hW0 hGe hi hz0 hz1 hz2 hb0 hb1
 go_enter func93,ntmps93
 go_wp2_with (at_builtin;refine Lib.wpList_append_run _ rfl _ _ _ _ rfl _ _ rfl rfl _ _ (hap _) ?_)
 go_wp2_with (at_builtin;refine wpList_copy_runK _ rfl _ _ 22 22 rfl _ _ rfl rfl (hcp1 _ _) ?_)
 go_region_law (refine step_copy_runK rfl _ _ 22 22 rfl _ _ (by simp[Act.eval,Act.put]) (by simp[Act.eval,Act.put]) (hcp2 _ _ _) ?_)
 go_wp2
 go_ret
 exact⟨_,rfl,HF.out⟩
end
section
open Go.RowKit
attribute [local go_sem ↓] Go.wp_at_zero Go.wp_at_succ
theorem Zwi {w:World}{A:Option Addr}{c:Nat}{xs:List Fld}(h:w.ownsRow 0 41 2 (.slice A xs.length c) xs.length (fvs xs))(hm:xs.length<=1000)(f:Fld)(vb:Nat)(hv:Blk w vb 41 #[.string ⟨f.1.toArray⟩,.string ⟨f.2.toArray⟩])(hne:∀a,A=some a->a.block≠vb)(n:Nat)(hn:n=xs.length):
  CA 93 #[.slice A n c,.int .i64 0,.slice (some ⟨vb,0,none⟩) 1 1] w fun e w'=>∃v,e=.returned v/\Zhd w w' A v f xs:=by
 subst hn
 rcases Nat.eq_zero_or_pos xs.length with h0 | h0
 ·have hx:xs=[]:=List.eq_nil_of_length_eq_zero h0
  subst hx
  exact Zwh h f vb hv
 ·by_cases hroom:xs.length+1<=c
  ·exact Zsi h h0 hroom hm f vb hv hne
  ·exact Zsj h h0 (by omega) hm f vb hv
def Z12 (w w':World)(g:Nat)(A:Option Addr)(mx:Nat)(xs:List Fld)(f:Fld):Prop:=
 ∃A' c',Tab w' g A' c' (Zrs mx xs f) mx/\Zax (Zhs g A) w w'/\∀k,Zhs g A' k->Zhs g A k∨w.heap.size<=k
theorem Zct {w w1:World}(hb:Below w.drew.heap.size w.drew w1):Below w.heap.size w w1:=⟨hb.os,hb.tape,hb.output,hb.size,hb.block⟩
theorem add_no {w:World}{g:Nat}{A:Option Addr}{c:Nat}{xs:List Fld}{mx:Nat}(h:Tab w g A c xs mx)(f:Fld)(hf:fOk f)(hno:mx < fsz f):
  CA 44 #[.pointer (some ⟨g,0,none⟩),.agg #[.string ⟨f.1.toArray⟩,.string ⟨f.2.toArray⟩]] w fun e w'=>e=.returned (.bool false)/\Z12 w w' g A mx xs f:=by
 have hd:decide (((mx:Nat):Int) < ((fsz f:Nat):Int))=true:=by simp;omega
 have hbx:=(Below.refl w.heap.size w).alloc (Nat.le_refl _) (.cells #[.string ⟨f.1.toArray⟩,.string ⟨f.2.toArray⟩] 41)
 have hT:=h.below hbx
 have hgw:=h.lt
 have hBx:Blk (w.alloc (.cells #[.string ⟨f.1.toArray⟩,.string ⟨f.2.toArray⟩] 41)) w.heap.size 41 #[.string ⟨f.1.toArray⟩,.string ⟨f.2.toArray⟩]:=Blk.new w _ _
 obtain⟨_,_,c2⟩:=hT.cells
 have b0:(w.alloc (.cells #[.string ⟨f.1.toArray⟩,.string ⟨f.2.toArray⟩] 41)).cell? ⟨w.heap.size,0,none⟩=some (.string ⟨f.1.toArray⟩):=hBx.cell 0
 have b1:(w.alloc (.cells #[.string ⟨f.1.toArray⟩,.string ⟨f.2.toArray⟩] 41)).cell? ⟨w.heap.size,1,none⟩=some (.string ⟨f.2.toArray⟩):=hBx.cell 1
 have HX:=Hd hBx
 have HT:=Hd hT
 have HB:=Hd hbx
 have HG:=Hd hgw
 clear hT hbx h hBx hgw
 go_enter func44,ntmps44
 go_wp2
 generalize (w.alloc (.cells #[.string ⟨f.1.toArray⟩,.string ⟨f.2.toArray⟩] 41))=W at*
 go_region_held3 (fun w'=>w'.cell? ⟨g,2,none⟩=some (.int .i64 ((mx:Nat):Int))/\w'.cell? ⟨w.heap.size,0,none⟩=some (.string ⟨f.1.toArray⟩)/\w'.cell? ⟨w.heap.size,1,none⟩=some (.string ⟨f.2.toArray⟩))
  (first | go_keep | (exact⟨Zaj hb1 ‹_›,Zaj hb1 ‹_›,Zaj hb1 ‹_›⟩))
  (first | (go_at_call 91;refine(Zgs f hf _).mono ?_;rintro e w1 ⟨rfl,hb1⟩))
 all_goals
  have hbW:=Zct hb1
  have h1:=Hd (HT.out.below hbW)
  have h2:=Hd (HB.out.trans (hbW.mono HB.out.size))
  clear hb1 hbW
  go_wp2_with fail
  refine(Zi2 h1.out 0 (by omega)).mono ?_
  rintro e w2 ⟨rfl,h3,h4⟩
  go_wp2
  go_ret
  refine⟨rfl,A,c,?_,(Zax.of_below h2.out).trans h4 fun i hi=> .inl hi,fun k hk=> .inl hk⟩
  rw[tAdd_no hno]
  rw[shr_zero]at h3
  exact h3
theorem Zzw {w3:World}{g:Nat}{A:Option Addr}{c:Nat}{ys:List Fld}{mx:Nat}(h:Tab w3 g A c ys mx)(f:Fld):
  CA 93 #[.slice A ys.length c,.int .i64 0,.slice (some ⟨w3.heap.size,0,none⟩) 1 1] (w3.alloc (.cells #[.string ⟨f.1.toArray⟩,.string ⟨f.2.toArray⟩] 41)).drew fun e w4=>
   ∃A' c',e=.returned (.slice A' (ys.length+1) c')/\w4.ownsRow 0 41 2 (.slice A' (ys.length+1) c') (ys.length+1) (fvs (f::ys))/\
    Blk w4 g 168 #[.slice A ys.length c,.int .i64 (wt ys:Nat),.int .i64 (mx:Nat)]/\Zax (Zhs g A) w3 w4/\(∀a,A'=some a->(∃b,A=some b/\a.block=b.block)∨w3.heap.size<=a.block):=by
 have hb:Below w3.heap.size w3 (w3.alloc (.cells #[.string ⟨f.1.toArray⟩,.string ⟨f.2.toArray⟩] 41)).drew:=((Below.refl _ _).alloc (Nat.le_refl _) _).drew
 have h1:=h.below hb
 have hcap:=h.cap.2.2
 have hlt:=h.lt
 refine(Zwi h1.own (by omega) f w3.heap.size ((Blk.new w3 _ _).drew) (fun a ha he=> ?_) _ rfl).mono ?_
 ·have:=hlt a.block (.inr ⟨a,ha,rfl⟩)
  omega
 ·rintro e w4 ⟨v,rfl,A',c',rfl,hown,hk,hfr⟩
  refine⟨A',c',rfl,hown,h1.blk.keep hk ?_,?_,fun a ha=> ?_⟩
  ·rintro⟨a,ha,he⟩
   exact Zyb h a ha he.symm
  ·exact(Zax.of_below hb).trans (hk.mono (T:=Zhs g A) fun i hi=> .inr hi) fun i hi=> .inl hi
  ·rcases hfr a ha with h2 | h2
   ·exact .inl h2
   ·refine .inr ?_
    have:=hb.size
    omega
theorem add_end {w w3 w4 w6:World}{g:Nat}{A A':Option Addr}{c c':Nat}{xs ys:List Fld}{mx:Nat}{f:Fld}(hy:Zrs mx xs f=f::ys)(hmx:mx<=4096)(hk3:Zax (Zhs g A) w w3)
  (hown:w4.ownsRow 0 41 2 (.slice A' (ys.length+1) c') (ys.length+1) (fvs (f::ys))) (hblk:Blk w4 g 168 #[.slice A ys.length c,.int .i64 (wt ys:Nat),.int .i64 (mx:Nat)]) (hk4:Zax (Zhs g A) w3 w4)
  (hfr:∀a,A'=some a->(∃b,A=some b/\a.block=b.block)∨w3.heap.size<=a.block) (hb:Below (w4.setCell ⟨g,0,none⟩ (.slice A' (ys.length+1) c')).heap.size (w4.setCell ⟨g,0,none⟩ (.slice A' (ys.length+1) c')) w6):
  Z12 w (w6.setCell ⟨g,1,none⟩ (.int .i64 ((wt ys+fsz f:Nat):Int))) g A mx xs f:=by
 have hw:wt (f::ys)=wt ys+fsz f:=by rw[Zrk];omega
 have hwt:=Zrj mx xs f
 have hne:∀a,A'=some a->a.block≠g:=by
  intro a ha he
  have:=Zao hown hblk (by decide)
  rw[ha]at this
  exact this (by simp[Value.ownBlock,he])
 have o1:=Zif hown hne (.slice A' (ys.length+1) c') (p:=⟨g,0,none⟩)
 have k1:=hblk.set_ 0 (.slice A' (ys.length+1) c')
 have k2:Blk w6 g 168 _:=k1.below hb k1.lt
 have o2:=Zul o1 (Zax.of_below (S:=fun _=>False) hb) fun _ _ h=>h
 have o3:=Zif o2 hne (.int .i64 ((wt ys+fsz f:Nat):Int)) (p:=⟨g,1,none⟩)
 have k3:=k2.set_ 1 (.int .i64 ((wt ys+fsz f:Nat):Int))
 refine⟨A',c',?_,?_,?_⟩
 ·rw[hy]at hwt⊢
  refine⟨?_,o3,by omega,hmx⟩
  rw[hw]
  simpa using k3
 ·have k4:Zax (Zhs g A) w4 (w6.setCell ⟨g,1,none⟩ (.int .i64 ((wt ys+fsz f:Nat):Int))):=by
   have a1:=(Zax.refl (Zhs g A) w4).setCell (p:=⟨g,0,none⟩) (.inl (.inl rfl)) (.slice A' (ys.length+1) c')
   have a2:=a1.trans (Zax.of_below (S:=Zhs g A) hb) fun i hi=> .inl hi
   exact a2.setCell (p:=⟨g,1,none⟩) (.inl (.inl rfl)) _
  exact(hk3.trans hk4 fun i hi=> .inl hi).trans k4 fun i hi=> .inl hi
 ·rintro k (rfl | ⟨a,ha,rfl⟩)
  ·exact .inl (.inl rfl)
  ·rcases hfr a ha with⟨b,hb1,hb2⟩ | h2
   ·exact .inl (.inr ⟨b,hb1,hb2⟩)
   ·refine .inr ?_
    have:=hk3.size
    omega
theorem add_yes {w:World}{g:Nat}{A:Option Addr}{c:Nat}{xs:List Fld}{mx:Nat}(h:Tab w g A c xs mx)(f:Fld)(hf:fOk f)(hno:¬mx < fsz f):
  CA 44 #[.pointer (some ⟨g,0,none⟩),.agg #[.string ⟨f.1.toArray⟩,.string ⟨f.2.toArray⟩]] w fun e w'=>e=.returned (.bool true)/\Z12 w w' g A mx xs f:=by
 have hd:decide (((mx:Nat):Int) < ((fsz f:Nat):Int))=false:=by simp;omega
 have hmx:=h.mx
 have hwr:IntKind.i64.wrap (((mx:Nat):Int)-((fsz f:Nat):Int))=((mx-fsz f:Nat):Int):=by
  rw[IntKind.wrap_i64]
  omega
 have hbx:=(Below.refl w.heap.size w).alloc (Nat.le_refl _) (.cells #[.string ⟨f.1.toArray⟩,.string ⟨f.2.toArray⟩] 41)
 have hT:=h.below hbx
 have hgw:=h.lt
 have hBx:Blk (w.alloc (.cells #[.string ⟨f.1.toArray⟩,.string ⟨f.2.toArray⟩] 41)) w.heap.size 41 #[.string ⟨f.1.toArray⟩,.string ⟨f.2.toArray⟩]:=Blk.new w _ _
 obtain⟨_,_,c2⟩:=hT.cells
 have b0:(w.alloc (.cells #[.string ⟨f.1.toArray⟩,.string ⟨f.2.toArray⟩] 41)).cell? ⟨w.heap.size,0,none⟩=some (.string ⟨f.1.toArray⟩):=hBx.cell 0
 have b1:(w.alloc (.cells #[.string ⟨f.1.toArray⟩,.string ⟨f.2.toArray⟩] 41)).cell? ⟨w.heap.size,1,none⟩=some (.string ⟨f.2.toArray⟩):=hBx.cell 1
 have HX:=Hd hBx
 have HT:=Hd hT
 have HB:=Hd hbx
 have HG:=Hd hgw
 clear hT hbx h hBx hgw
 go_enter func44,ntmps44
 go_wp2
 generalize (w.alloc (.cells #[.string ⟨f.1.toArray⟩,.string ⟨f.2.toArray⟩] 41))=W at*
 go_region_held3 (fun w'=>w'.cell? ⟨g,2,none⟩=some (.int .i64 ((mx:Nat):Int))/\w'.cell? ⟨w.heap.size,0,none⟩=some (.string ⟨f.1.toArray⟩)/\w'.cell? ⟨w.heap.size,1,none⟩=some (.string ⟨f.2.toArray⟩))
  (first | go_keep | (exact⟨Zaj hb1 ‹_›,Zaj hb1 ‹_›,Zaj hb1 ‹_›⟩))
  (first | (go_at_call 91;refine(Zgs f hf _).mono ?_;rintro e w1 ⟨rfl,hb1⟩))
 all_goals
  have hbW:=Zct hb1
  have h1:=HT.out.below hbW
  have h2:=HB.out.trans (hbW.mono HB.out.size)
  have hx1:=HX.out.below hbW HX.out.lt
  have HX1:=Hd hx1
  have HT1:=Hd h1
  have HB1:=Hd h2
  obtain⟨_,_,d2⟩:=h1.cells
  have e0:w1.cell? ⟨w.heap.size,0,none⟩=some (.string ⟨f.1.toArray⟩):=hx1.cell 0
  have e1:w1.cell? ⟨w.heap.size,1,none⟩=some (.string ⟨f.2.toArray⟩):=hx1.cell 1
  clear hb1 hbW h1 h2 hx1 c2 b0 b1 HX HT HB
  go_wp2
  go_region_held3 (fun w'=>w'.cell? ⟨g,2,none⟩=some (.int .i64 ((mx:Nat):Int))/\w'.cell? ⟨w.heap.size,0,none⟩=some (.string ⟨f.1.toArray⟩)/\w'.cell? ⟨w.heap.size,1,none⟩=some (.string ⟨f.2.toArray⟩))
   (first | go_keep | (exact⟨Zaj hb2 ‹_›,Zaj hb2 ‹_›,Zaj hb2 ‹_›⟩) | (exact⟨h3.cells.2.2,(hx3.cell 0),(hx3.cell 1)⟩))
   (first | (go_at_call 91;refine(Zgs f hf _).mono ?_;rintro e w2 ⟨rfl,hb2⟩) | (go_at_call 92;refine(Zi2 (HT1.out.below (Zct hb2)) (mx-fsz f) (by omega)).mono ?_;rintro e w3 ⟨rfl,h3,h4⟩;have hx3:=(HX1.out.below (Zct hb2) HX1.out.lt).keep h4 (fun ht=>absurd (HG.out _ ht) (Nat.lt_irrefl _))))
  all_goals
   have hk3:=Hd (((Zax.of_below HB1.out).trans (Zax.of_below (S:=Zhs g A) (Zct hb2)) fun i hi=> .inl hi).trans h4 fun i hi=> .inl hi)
   have hs3:w.heap.size < w3.heap.size:=hx3.lt
   have HX3:=Hd hx3
   have HT3:=Hd h3
   obtain⟨p0,p1,p2⟩:=h3.cells
   have g0:=h3.blk.frozen 0
   have g1:=h3.blk.frozen 1
   have hg3:=h3.blk.lt
   have q0:w3.cell? ⟨w.heap.size,0,none⟩=some (.string ⟨f.1.toArray⟩):=hx3.cell 0
   have q1:w3.cell? ⟨w.heap.size,1,none⟩=some (.string ⟨f.2.toArray⟩):=hx3.cell 1
   have hwt3:=h3.wt
   have hcap3:=h3.cap.2.2
   have HN:=Hd (Zzw h3 f)
   have HY:=Hd (tAdd_yes hno (xs:=xs))
   clear hb2 h3 h4 hx3 d2 e0 e1 HX1 HT1 HB1
   generalize shr (mx-fsz f) xs=ys at*
   have hws:IntKind.i64.wrap (((wt ys:Nat):Int)+((fsz f:Nat):Int))=((wt ys+fsz f:Nat):Int):=by
    rw[IntKind.wrap_i64]
    omega
   go_wp2
   go_region_law (first | (go_simp;go_at_call 93;refine HN.out.mono ?_;rintro e w4 ⟨A4,c4,rfl,hown4,hblk4,hk4,hfr4⟩;have t0:=hblk4.cell 0;have t1:=hblk4.frozen 0))
   all_goals
    have k5:=hblk4.set_ 0 (.slice A4 (ys.length+1) c4)
    have x5:Blk (w4.setCell ⟨g,0,none⟩ (.slice A4 (ys.length+1) c4)) w.heap.size 41 #[.string ⟨f.1.toArray⟩,.string ⟨f.2.toArray⟩]:=
     (HX3.out.keep hk4 (fun ht=>absurd (HG.out _ ht) (Nat.lt_irrefl _))).far (p:=⟨g,0,none⟩) (by have:=HG.out g (.inl rfl);show w.heap.size≠g;omega) _
    have HE:=Hd (fun(w6:World) (hb:Below (w4.setCell ⟨g,0,none⟩ (.slice A4 (ys.length+1) c4)).heap.size (w4.setCell ⟨g,0,none⟩ (.slice A4 (ys.length+1) c4)) w6)=>add_end (xs:=xs) HY.out hmx hk3.out hown4 hblk4 hk4 hfr4 hb)
    clear hown4 hblk4 hk4 hfr4 t0 t1 q0 q1 p0 p1 p2 g0 g1 HX3 HN hs3 hg3
    generalize w4.setCell ⟨g,0,none⟩ (.slice A4 (ys.length+1) c4)=W5 at*
    have u1:W5.cell? ⟨g,1,none⟩=some (.int .i64 ((wt ys:Nat):Int)):=by
     have:=k5.cell 1
     simpa using this
    have v1:=k5.frozen 1
    have hg5:=k5.lt
    have x0:W5.cell? ⟨w.heap.size,0,none⟩=some (.string ⟨f.1.toArray⟩):=x5.cell 0
    have x1:W5.cell? ⟨w.heap.size,1,none⟩=some (.string ⟨f.2.toArray⟩):=x5.cell 1
    clear k5 x5
    go_wp2
    go_region_law (first | (go_simp;go_at_call 91;refine(Zgs f hf _).mono ?_;rintro e w6 ⟨rfl,hb6⟩;have s1:=Zlo hb6 u1;have s2:=Zhy hb6 hg5 v1))
    all_goals
     go_wp2
     go_ret
     exact⟨rfl,HE.out _ (Zct hb6)⟩
theorem Z1x {w:World}{g:Nat}{A:Option Addr}{c:Nat}{xs:List Fld}{mx:Nat}(h:Tab w g A c xs mx)(f:Fld)(hf:fOk f):
  CA 44 #[.pointer (some ⟨g,0,none⟩),.agg #[.string ⟨f.1.toArray⟩,.string ⟨f.2.toArray⟩]] w fun e w'=>e=.returned (.bool (decide (fsz f<=mx)))/\Z12 w w' g A mx xs f:=by
 by_cases hno:mx < fsz f
 ·have e:decide (fsz f<=mx)=false:=by simp;omega
  rw[e]
  exact add_no h f hf hno
 ·have e:decide (fsz f<=mx)=true:=by simp;omega
  rw[e]
  exact add_yes h f hf hno
end
section
open Go.RowKit
attribute [local go_sem ↓] Go.wp_at_zero Go.wp_at_succ
theorem Zi6 {S:Nat->Prop}{w w':World}{B size n:Nat}{A:Option Addr}{xs:List Value}(h:Zab w B size A n xs)(hk:Zax S w w')(hB:B<=w.heap.size)(hS:∀ad,A=some ad->¬S ad.block):Zab w' B size A n xs:=by
 refine⟨h.1,fun h0=> ?_⟩
 obtain⟨ad,e,hb,hc⟩:=h.2 h0
 refine⟨ad,e,hb,fun j u hu=> ?_⟩
 have h1:=hc j u hu
 have h2:=hk.block ad.block (by omega) (hS ad e)
 have h3:(ad.add j).block=ad.block:=Zbk _ _
 rw[<-h3]at h2
 have h4:=World.cell?_spot h1
 rw[<-h1]
 unfold World.cell?
 rw[h2]
def Rd (w:World)(R B:Nat)(b:List UInt8):Prop:=∃a c,Blk w R 180 #[.slice a b.length c,.nilIface]/\b.length<=c/\Zab w w.heap.size 1 a b.length (bs b)/\∀ad,a=some ad->ad.block=B
theorem Rd.keep {S:Nat->Prop}{w w':World}{R B:Nat}{b:List UInt8}(h:Rd w R B b)(hk:Zax S w w')(hB:¬S B)(hR:¬S R):Rd w' R B b:=by
 obtain⟨a,c,h1,h2,h3,h4⟩:=h
 exact⟨a,c,h1.keep hk hR,h2,(Zi6 h3 hk (Nat.le_refl _) fun ad e=>by rw[h4 ad e];exact hB).more hk.size,h4⟩
theorem rd_set {w w1:World}{R B U:Nat}{b:List UInt8}{a:Option Addr}{c:Nat}(hb:Blk w R 180 #[.slice a b.length c,.nilIface])(hc:b.length<=c)(hr:Zab w w.heap.size 1 a b.length (bs b))(ha:∀ad,a=some ad->ad.block=B)(hRB:R≠B)(hU:U<=b.length)(hbw:Below w.heap.size w w1)(v:Value)(hv:v=.slice (if c=U then a else a.map (·.add U)) (b.length-U) (c-U)):
  Rd ((w1.setCell ⟨R,0,none⟩ v).setCell ⟨R,1,none⟩ .nilIface) R B (b.drop U)/\Zax (fun k=>k=R) w ((w1.setCell ⟨R,0,none⟩ v).setCell ⟨R,1,none⟩ .nilIface):=by
 subst hv
 have hk:Zax (fun k=>k=R) w ((w1.setCell ⟨R,0,none⟩ (.slice (if c=U then a else a.map (·.add U)) (b.length-U) (c-U))).setCell ⟨R,1,none⟩ .nilIface):=
  ((Zax.of_below (S:=fun k=>k=R) hbw).setCell (p:=⟨R,0,none⟩) (.inl rfl) _).setCell (p:=⟨R,1,none⟩) (.inl rfl) _
 have hab:∀ad,(if c=U then a else a.map (·.add U))=some ad->ad.block=B:=by
  intro ad he
  by_cases h:c=U
  ·rw[if_pos h]at he
   exact ha ad he
  ·rw[if_neg h]at he
   cases a with
   | none=>simp at he
   | some a0=>
    simp only[Option.map_some,Option.some.injEq]at he
    rw[<-he,Zbk]
    exact ha a0 rfl
 have h1:=((hb.below hbw hb.lt).set_ 0 (.slice (if c=U then a else a.map (·.add U)) (b.length-U) (c-U))).set_ 1 .nilIface
 have hcut:=hr.cut (k:=U) (cap:=c) hU hc
 rw[Nat.mul_one]at hcut
 have h2:=(Zi6 hcut hk (Nat.le_refl _) fun ad he=>by rw[hab ad he];exact fun e=>hRB e.symm).more hk.size
 refine⟨⟨_,c-U,by simpa [List.length_drop]using h1,by rw[List.length_drop];omega,?_,hab⟩,hk⟩
 simpa [Zfy,List.length_drop]using h2
theorem Zyy {w w1:World}{R B U:Nat}{b:List UInt8}{bb off:Nat}{c:Nat}(hb:Blk w R 180 #[.slice (some ⟨bb,off,none⟩) b.length c,.nilIface])(hc:b.length<=c)(hr:Zab w w.heap.size 1 (some ⟨bb,off,none⟩) b.length (bs b))(ha:bb=B)(hRB:R≠B)(hU:U<=b.length)(hbw:Below w.heap.size w w1):
  (c=U->Rd ((w1.setCell ⟨R,0,none⟩ (.slice (some ⟨bb,off,none⟩) 0 0)).setCell ⟨R,1,none⟩ .nilIface) R B (b.drop U)/\Zax (fun k=>k=R) w ((w1.setCell ⟨R,0,none⟩ (.slice (some ⟨bb,off,none⟩) 0 0)).setCell ⟨R,1,none⟩ .nilIface))/\
  (¬c=U->Rd ((w1.setCell ⟨R,0,none⟩ (.slice (some ⟨bb,off+U,none⟩) (b.length-U) (c-U))).setCell ⟨R,1,none⟩ .nilIface) R B (b.drop U)/\Zax (fun k=>k=R) w ((w1.setCell ⟨R,0,none⟩ (.slice (some ⟨bb,off+U,none⟩) (b.length-U) (c-U))).setCell ⟨R,1,none⟩ .nilIface)):=by
 constructor
 ·intro h
  exact rd_set hb hc hr (fun ad e=>by cases e;exact ha) hRB hU hbw _ (by rw[if_pos h,h,Nat.sub_self,Nat.sub_eq_zero_of_le (by omega)])
 ·intro h
  exact rd_set hb hc hr (fun ad e=>by cases e;exact ha) hRB hU hbw _ (by rw[if_neg h];simp[Addr.add])
theorem Zn0 {w:World}{R B:Nat}{b:List UInt8}(h:Rd w R B b)(hRB:R≠B)(hm:b.length<=140737488355328)(s:Int)(N U:Nat)(hV:Zbi b s=(N,U,0)):
  CA 94 #[.pointer (some ⟨R,0,none⟩),.int .i64 s] w fun e w'=>e=.returned (.int .i64 ((N:Nat):Int))/\Rd w' R B (b.drop U)/\Zax (fun k=>k=R) w w':=by
 obtain⟨a,c,hb,hc,hr,ha⟩:=h
 have hu:=Zen (l:=b) (t:=s) (by rw[hV])
 rw[hV]at hu
 simp only at hu
 obtain⟨hu1,hu2,hu3⟩:=hu
 obtain⟨bb,off,y0,rfl,hbB,-⟩:=Zgt hr (by omega)
 have hgo:=Zyy hb hc hr (ha _ rfl) hRB hu2 (Below.refl _ w)
 have c0:=hb.cell 0
 have c1:=hb.cell 1
 have f0:=hb.frozen 0
 have f1:=hb.frozen 1
 have hlt:=hb.lt
 have HB:=Hd hb
 have HR:=Hd hr
 have HV:=Hd hV
 have HU:=Hd hu1
 clear hb hr hV hu1 hu3 ha hRB
 by_cases hcU:c=U
 ·have HG:=Hd (hgo.1 hcU)
  subst hcU
  clear hgo
  go_enter func94,ntmps94
  go_wp2_with fail
  refine(Zc0 b s _ _ _ rfl hc hm w.heap.size w HR.out).mono ?_
  rintro e w' ⟨rfl,rfl⟩
  rw[HV.out,Zal]
  go_wp2
  go_ret
  exact⟨rfl,HG.out⟩
 ·have HG:=Hd (hgo.2 hcU)
  clear hgo
  go_enter func94,ntmps94
  go_wp2_with fail
  refine(Zc0 b s _ _ c rfl hc hm w.heap.size w HR.out).mono ?_
  rintro e w' ⟨rfl,rfl⟩
  rw[HV.out,Zal]
  go_wp2
  go_ret
  exact⟨rfl,HG.out⟩
theorem Znv {w:World}{R B:Nat}{b:List UInt8}(h:Rd w R B b)(hRB:R≠B)(hm:b.length<=140737488355328)(t:List UInt8)(U:Nat)(hV:Zbv b=(t,U,0)):
  CA 151 #[.pointer (some ⟨R,0,none⟩)] w fun e w'=>e=.returned (.string ⟨t.toArray⟩)/\Rd w' R B (b.drop U)/\Zax (fun k=>k=R) w w':=by
 obtain⟨a,c,hb,hc,hr,ha⟩:=h
 have hu:=Zfa (l:=b) (by rw[hV])
 rw[hV]at hu
 simp only at hu
 obtain⟨hu1,hu2,hu3⟩:=hu
 obtain⟨bb,off,y0,rfl,hbB,-⟩:=Zgt hr (by omega)
 have hgo:=fun w1 (hbw:Below w.heap.size w w1)=>Zyy hb hc hr (ha _ rfl) hRB hu2 hbw
 have c0:=hb.cell 0
 have c1:=hb.cell 1
 have f0:=hb.frozen 0
 have f1:=hb.frozen 1
 have hlt:=hb.lt
 have HB:=Hd hb
 have HR:=Hd hr
 have HV:=Hd hV
 have HU:=Hd hu1
 have HGO:=Hd hgo
 clear hb hr hV hu1 hu3 ha hRB hgo
 by_cases hcU:c=U
 ·subst hcU
  go_enter func151,ntmps151
  go_wp2_with fail
  refine(Zp9 b _ _ _ rfl hc hm w HR.out).mono ?_
  rintro e w1 ⟨rfl,hb1⟩
  rw[HV.out,Zal]
  have hk:=HB.out.below hb1 HB.out.lt
  have c0:=hk.cell 0
  have c1:=hk.cell 1
  have f0:=hk.frozen 0
  have f1:=hk.frozen 1
  have hlt:=hk.lt
  have HG:=Hd ((HGO.out _ hb1).1 (by trivial))
  clear hk hb1
  go_wp2
  go_ret
  exact⟨rfl,HG.out⟩
 ·go_enter func151,ntmps151
  go_wp2_with fail
  refine(Zp9 b _ _ _ rfl hc hm w HR.out).mono ?_
  rintro e w1 ⟨rfl,hb1⟩
  rw[HV.out,Zal]
  have hk:=HB.out.below hb1 HB.out.lt
  have c0:=hk.cell 0
  have c1:=hk.cell 1
  have f0:=hk.frozen 0
  have f1:=hk.frozen 1
  have hlt:=hk.lt
  have HG:=Hd ((HGO.out _ hb1).2 hcU)
  clear hk hb1
  go_wp2
  go_ret
  exact⟨rfl,HG.out⟩
end
section
open Go.RowKit
variable {qq:Value×Value}
attribute [local go_sem ↓] Go.wp_at_zero Go.wp_at_succ
theorem litV_ok {ys:List Fld}{b:List UInt8}{t:Int}{f:Fld}{U:Nat}(h:Zj6 ys b t=(f,U,0)):∃N U1,Zbi b t=(N,U1,0)/\N<=12+ys.length/\
  ((0 < N/\∃v U2,Zbv (b.drop U1)=(v,U2,0)/\f=(((Zb9 ys).getD (N-1) ([],[])).1,v)/\U=U1+U2)∨
   (N=0/\∃n U2 v U3,Zbv (b.drop U1)=(n,U2,0)/\Zbv (b.drop (U1+U2))=(v,U3,0)/\f=(n,v)/\U=U1+U2+U3)):=by
 obtain⟨N,U1,E1,h1⟩:∃N U1 E1,Zbi b t=(N,U1,E1):=⟨_,_,_,rfl⟩
 obtain⟨n,U2,E2,h2⟩:∃n U2 E2,Zbv (b.drop U1)=(n,U2,E2):=⟨_,_,_,rfl⟩
 obtain⟨v,U3,E3,h3⟩:∃v U3 E3,Zbv (b.drop (U1+U2))=(v,U3,E3):=⟨_,_,_,rfl⟩
 simp only[Zj6,h1,h2,h3]at h
 by_cases e1:E1≠0
 ·rw[if_pos e1]at h
  simp at h
  exact absurd h.2.2 e1
 rw[if_neg e1]at h
 have e1':E1=0:=Decidable.not_not.1 e1
 subst e1'
 by_cases e2:12+ys.length < N
 ·rw[if_pos e2]at h
  simp at h
 rw[if_neg e2]at h
 refine⟨N,U1,h1,by omega,?_⟩
 by_cases e3:0 < N
 ·rw[if_pos e3]at h
  left
  by_cases e4:E2≠0
  ·rw[if_pos e4]at h
   simp at h
   exact absurd h.2.2 e4
  rw[if_neg e4]at h
  have e4':E2=0:=Decidable.not_not.1 e4
  subst e4'
  simp at h
  exact⟨e3,n,U2,h2,by rw[<-h.1];simp,h.2.symm⟩
 ·rw[if_neg e3]at h
  right
  by_cases e4:E2≠0
  ·rw[if_pos e4]at h
   simp at h
   exact absurd h.2.2 e4
  rw[if_neg e4]at h
  have e4':E2=0:=Decidable.not_not.1 e4
  subst e4'
  by_cases e5:E3≠0
  ·rw[if_pos e5]at h
   simp at h
   exact absurd h.2.2 e5
  rw[if_neg e5]at h
  have e5':E3=0:=Decidable.not_not.1 e5
  subst e5'
  simp at h
  exact⟨by omega,n,U2,v,U3,h2,h3,h.1.symm,h.2.symm⟩
structure LSt (w wr:World)(R B F:Nat)(b:List UInt8)(x y:Value):Prop where
 rd:Rd wr R B b
 fl:Blk wr F 41 #[x,y]
 kp:Zax (fun k=>k=R) w wr
 bw:B < w.heap.size
 br:R≠B
 rw_:R < w.heap.size
 fw:w.heap.size<=F
section
variable {w wr w1:World} {R B F:Nat} {b b':List UInt8} {x y:Value}
theorem LSt.next (h:LSt w wr R B F b x y)(hr:Rd w1 R B b')(hk:Zax (fun k=>k=R) wr w1):LSt w w1 R B F b' x y:=
 ⟨hr,h.fl.keep hk (by have:=h.rw_;have:=h.fw;omega),h.kp.trans hk fun i hi=> .inl hi,h.bw,h.br,h.rw_,h.fw⟩
theorem LSt.below (h:LSt w wr R B F b x y)(hb:Below wr.heap.size wr w1):LSt w w1 R B F b x y:=by
 have hk:Zax (fun _=>False) wr w1:=Zax.of_below hb
 exact⟨h.rd.keep hk (fun h=>h) (fun h=>h),h.fl.keep hk (fun h=>h),h.kp.trans hk fun i hi=>hi.elim,h.bw,h.br,h.rw_,h.fw⟩
theorem LSt.set0 (h:LSt w wr R B F b x y)(v:Value):LSt w (wr.setCell ⟨F,0,none⟩ v) R B F b v y:=by
 have hk:Zax (fun k=>k=F) wr (wr.setCell ⟨F,0,none⟩ v):=(Zax.refl (fun k=>k=F) wr).setCell (p:=⟨F,0,none⟩) (.inl rfl) v
 have e1:=h.rw_
 have e2:=h.fw
 have e3:=h.bw
 refine⟨h.rd.keep hk (by omega) (by omega),?_,h.kp.trans hk fun i hi=> .inr (by omega),h.bw,h.br,h.rw_,h.fw⟩
 have:=h.fl.set_ 0 v
 simpa using this
theorem LSt.set1 (h:LSt w wr R B F b x y)(v:Value):LSt w (wr.setCell ⟨F,1,none⟩ v) R B F b x v:=by
 have hk:Zax (fun k=>k=F) wr (wr.setCell ⟨F,1,none⟩ v):=(Zax.refl (fun k=>k=F) wr).setCell (p:=⟨F,1,none⟩) (.inl rfl) v
 have e1:=h.rw_
 have e2:=h.fw
 have e3:=h.bw
 refine⟨h.rd.keep hk (by omega) (by omega),?_,h.kp.trans hk fun i hi=> .inr (by omega),h.bw,h.br,h.rw_,h.fw⟩
 have:=h.fl.set_ 1 v
 simpa using this
theorem Zug {wr:World}{R B:Nat}{b:List UInt8}(h:Rd wr R B b)(hRB:R≠B):Rd (wr.setCell ⟨R,1,none⟩ .nilIface) R B b/\Zax (fun k=>k=R) wr (wr.setCell ⟨R,1,none⟩ .nilIface):=by
 have hk:Zax (fun k=>k=R) wr (wr.setCell ⟨R,1,none⟩ .nilIface):=(Zax.refl (fun k=>k=R) wr).setCell (p:=⟨R,1,none⟩) (.inl rfl) _
 refine⟨?_,hk⟩
 obtain⟨a,c,h1,h2,h3,h4⟩:=h
 refine⟨a,c,?_,h2,(Zi6 h3 hk (Nat.le_refl _) fun ad e=>by rw[h4 ad e];exact fun e=>hRB e.symm).more hk.size,h4⟩
 have:=h1.set_ 1 .nilIface
 simpa using this
theorem LSt.noErr (h:LSt w wr R B F b x y):LSt w (wr.setCell ⟨R,1,none⟩ .nilIface) R B F b x y:=by
 obtain⟨h1,h2⟩:=Zug h.rd h.br
 exact h.next h1 h2
theorem LSt.cells (h:LSt w wr R B F b x y):wr.cell? ⟨F,0,none⟩=some x/\wr.cell? ⟨F,1,none⟩=some y/\wr.frozen? ⟨F,0,none⟩=false/\wr.frozen? ⟨F,1,none⟩=false/\F < wr.heap.size/\
  (∃v,wr.cell? ⟨R,0,none⟩=some v)/\wr.cell? ⟨R,1,none⟩=some .nilIface/\wr.frozen? ⟨R,1,none⟩=false/\R < wr.heap.size/\R≠F:=by
 obtain⟨a,c,h1,h2,h3,-⟩:=h.rd
 have e1:=h.rw_
 have e2:=h.fw
 exact⟨h.fl.cell 0,h.fl.cell 1,h.fl.frozen 0,h.fl.frozen 1,h.fl.lt,⟨_,h1.cell 0⟩,h1.cell 1,h1.frozen 1,h1.lt,by omega⟩
end
theorem lit_ok {w:World}{C h:Nat}{A:Option Addr}{c:Nat}{ys:List Fld}{my most:Nat}{bad:Bool}(H:CIn w C h A c ys my most bad qq){R B:Nat}{b:List UInt8}(hr:Rd w R B b)(hB:B < w.heap.size)(hBR:R≠B)(hRC:¬Zmb C h A R)(hm:b.length<=140737488355328)(t:Int)(f:Fld)(U:Nat)(hV:Zj6 ys b t=(f,U,0)):
  CA 96 #[.pointer (some ⟨C,0,none⟩),.pointer (some ⟨R,0,none⟩),.int .i64 t] w fun e w'=>e=.returned (.agg #[.string ⟨f.1.toArray⟩,.string ⟨f.2.toArray⟩])/\Rd w' R B (b.drop U)/\Zax (fun k=>k=R) w w':=by
 obtain⟨N,U1,hg,hN,hcase⟩:=litV_ok hV
 have hRw:R < w.heap.size:=by
  obtain⟨a,cc,h1,_⟩:=hr
  exact h1.lt
 have hu1:=(Zen (l:=b) (t:=t) (by rw[hg])).2.1
 rw[hg]at hu1
 simp only at hu1
 have h0:LSt w (w.alloc (.cells #[.string ⟨#[]⟩,.string ⟨#[]⟩] 41)) R B w.heap.size b (.string ⟨#[]⟩) (.string ⟨#[]⟩):=by
  have hba:Below w.heap.size w (w.alloc (.cells #[.string ⟨#[]⟩,.string ⟨#[]⟩] 41)):=(Below.refl _ _).alloc (Nat.le_refl _) _
  have hk:Zax (fun _=>False) w (w.alloc (.cells #[.string ⟨#[]⟩,.string ⟨#[]⟩] 41)):=Zax.of_below hba
  exact⟨hr.keep hk (fun h=>h) (fun h=>h),Blk.new w _ _,Zax.of_below hba,hB,hBR,hRw,Nat.le_refl _⟩
 obtain⟨F,hF⟩:=exl (w.heap.size)
 obtain⟨W0,hW0⟩:=exl (w.alloc (.cells #[.string ⟨#[]⟩,.string ⟨#[]⟩] 41))
 rw[hF,hW0]at h0
 have H0:=Hd h0
 have HH:=Hd H
 have HG:=Hd hg
 have HF:=Hd hF
 have HW0:=Hd hW0
 have HRC:=Hd hRC
 clear h0 H hg hF hW0 hr hRw hV
 rcases hcase with⟨hN0,v,U2,hv,rfl,rfl⟩ | ⟨hN0,n,U2,v,U3,hn,hv,rfl,rfl⟩
 ·have HV:=Hd hv
  have hu2:=(Zfa (l:=b.drop U1) (by rw[hv])).2.1
  rw[hv,List.length_drop]at hu2
  simp only at hu2
  have hNi:(0:Int) < ((N:Nat):Int):=by omega
  have hNd:=decide_eq_true hNi
  obtain⟨f0,hf0⟩:=exl ((Zb9 ys).getD (N-1) ([],[]))
  rw[hf0]
  have HF0:=Hd hf0
  clear hv hf0
  go_enter func96,ntmps96
  go_wp2_with fail
  rw[HW0.out,HF.out]
  refine(Zn0 H0.out.rd hBR hm t N U1 HG.out).mono ?_
  rintro e w1 ⟨rfl,hr1,hk1⟩
  have h1:=H0.out.next hr1 hk1
  obtain⟨c0,c1,-,-,cF,⟨r0v,r0⟩,r1,f1,rl,rne⟩:=h1.cells
  have hC1:=(HH.out.keep h1.kp fun k hk he=>HRC.out (he ▸ hk))
  obtain⟨hCb,hCt⟩:=hC1
  have d1:=hCb.cell 1
  have H1:=Hd h1
  have HCT:=Hd hCt
  clear hr1 hk1 h1 hCb hCt
  go_upto_region 3 with fail
  clear hNi hNd r1
  go_wp2_with fail
  obtain⟨k,rfl⟩:∃k,N=k+1:=⟨N-1,by omega⟩
  have hf0:(Zb9 ys).getD k ([],[])=f0:=HF0.out
  have hki:(((k+1:Nat):Int))=(k:Int)+1:=by omega
  rw[hki]
  refine(Zz9 HCT.out k (by omega) f0 hf0).mono ?_
  rintro e w2 ⟨rfl,hb2⟩
  have h2:=H1.out.below hb2
  obtain⟨c0,c1,g0,g1,cF,⟨r0v,r0⟩,r1,f1,rl,rne⟩:=h2.cells
  have H3:=Hd (((h2.set0 (.string ⟨f0.1.toArray⟩)).set1 (.string ⟨f0.2.toArray⟩)).noErr)
  clear hb2 h2 hf0 hki
  go_upto_region 5 with fail
  obtain⟨W3,hW3⟩:=exl (((w2.setCell ⟨F,0,none⟩ (.string ⟨f0.1.toArray⟩)).setCell ⟨F,1,none⟩ (.string ⟨f0.2.toArray⟩)).setCell ⟨R,1,none⟩ .nilIface)
  rw[hW3]
  have H3:=Hd (show LSt w W3 R B F (b.drop U1) (.string ⟨f0.1.toArray⟩) (.string ⟨f0.2.toArray⟩)by rw[<-hW3];exact H3.out)
  clear hW3 c0 c1 g0 g1 cF r0 r1 f1 rl rne
  go_wp2_with fail
  refine(Znv H3.out.rd hBR (by rw[List.length_drop];omega) v U2 HV.out).mono ?_
  rintro e w4 ⟨rfl,hr4,hk4⟩
  have h4:=H3.out.next hr4 hk4
  have h5:=h4.set1 (.string ⟨v.toArray⟩)
  obtain⟨c0,c1,g0,g1,cF,-⟩:=h4.cells
  have h6:=(h5.set0 (.string ⟨f0.1.toArray⟩)).set1 (.string ⟨v.toArray⟩)
  have H6:=Hd h6
  have x0:=h6.cells.1
  have x1:=h6.cells.2.1
  clear hr4 hk4 h4 h5 h6
  go_wp2
  refine bodyPost_ret (v:=.agg #[.string ⟨f0.1.toArray⟩,.string ⟨v.toArray⟩]) (by simp[results,Tryz.results96,go_sem,x0,x1]) rfl ⟨rfl,?_,H6.out.kp⟩
  have h:=H6.out.rd
  rw[List.drop_drop]at h
  exact h
 ·have HV:=Hd hv
  have HN:=Hd hn
  have hu2:=(Zfa (l:=b.drop U1) (by rw[hn])).2.1
  rw[hn,List.length_drop]at hu2
  simp only at hu2
  subst hN0
  clear hv hn
  go_enter func96,ntmps96
  go_wp2_with fail
  rw[HW0.out,HF.out]
  refine(Zn0 H0.out.rd hBR hm t 0 U1 HG.out).mono ?_
  rintro e w1 ⟨rfl,hr1,hk1⟩
  have h1:=H0.out.next hr1 hk1
  obtain⟨c0,c1,-,-,cF,⟨r0v,r0⟩,r1,f1,rl,rne⟩:=h1.cells
  have H1:=Hd h1
  clear hr1 hk1 h1
  go_wp2_with fail
  refine(Znv H1.out.rd hBR (by rw[List.length_drop];omega) n U2 HN.out).mono ?_
  rintro e w2 ⟨rfl,hr2,hk2⟩
  have h2:=H1.out.next hr2 hk2
  rw[List.drop_drop]at h2
  have H3:=Hd (h2.set0 (.string ⟨n.toArray⟩))
  clear c0 c1 cF r0 r1 f1 rl rne
  obtain⟨c0,c1,g0,g1,cF,-⟩:=h2.cells
  clear hr2 hk2 h2
  go_upto_region 5 with fail
  obtain⟨W3,hW3⟩:=exl (w2.setCell ⟨F,0,none⟩ (.string ⟨n.toArray⟩))
  rw[hW3]
  have H3:=Hd (show LSt w W3 R B F (b.drop (U1+U2)) (.string ⟨n.toArray⟩) (.string ⟨#[]⟩)by rw[<-hW3];exact H3.out)
  clear hW3 c0 c1 g0 g1 cF
  go_wp2_with fail
  refine(Znv H3.out.rd hBR (by rw[List.length_drop];omega) v U3 HV.out).mono ?_
  rintro e w4 ⟨rfl,hr4,hk4⟩
  have h4:=H3.out.next hr4 hk4
  have h5:=h4.set1 (.string ⟨v.toArray⟩)
  obtain⟨c0,c1,g0,g1,cF,-⟩:=h4.cells
  have h6:=(h5.set0 (.string ⟨n.toArray⟩)).set1 (.string ⟨v.toArray⟩)
  have H6:=Hd h6
  have x0:=h6.cells.1
  have x1:=h6.cells.2.1
  clear hr4 hk4 h4 h5 h6
  go_wp2
  refine bodyPost_ret (v:=.agg #[.string ⟨n.toArray⟩,.string ⟨v.toArray⟩]) (by simp[results,Tryz.results96,go_sem,x0,x1]) rfl ⟨rfl,?_,H6.out.kp⟩
  have h:=H6.out.rd
  rw[List.drop_drop]at h
  exact h
end
end Go.Proofs.YtbgnggkgmeagkaaGreatDoor
