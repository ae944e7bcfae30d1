/-
  A part of the proof of TopAlike: each theorem states its own conditions.
-/
import Derived.Test.YtbgnggkgmeagkaaGreatDoorMTopAlike32
import Derived.Test.YtbgnggkgmeagkaaGreatDoorMTopAlikeVIter
import Derived.WalkArith
import Derived.Maps.Range
set_option linter.unusedSimpArgs false
set_option linter.unusedVariables false
set_option maxRecDepth 100000
set_option maxHeartbeats 16000000
namespace Go.Proofs.YtbgnggkgmeagkaaGreatDoor
open Go.Proofs.Tryz
section
open Go.RowKit Go.Shelf
theorem vk_no1 {w w0:World}{F:List Zae}{io kb C M fn fc bn bc:Nat}{FA BA:Option Addr}{mt pt ht:List UInt8}{fs:List Fld}{ord out:Value}{ow la:Int}(hio:F[io]? =some (Zel w0))
  (hE:Zf8 mt pt ht fs bn≠0) (hm:mt.length<=9223372036854775807) (hp:pt.length<=9223372036854775807) (hh:ht.length<=9223372036854775807) (hf:Zjm fs) (hfl:fs.length<=140737488355328) (hfn:fn=fs.length) (hrf:Zab w0 w0.heap.size 2 FA fn (fvs fs))
  (h:Sep w (Zaa kb 126 (Zau C M ord (.slice none 0 0) out ow la (.slice none 0 0) 0 false)::F)):
  CA 15 #[.pointer (some ⟨kb,0,none⟩),.agg (Zcf mt pt ht FA fn fc BA bn bc)] w fun e w'=>(∃v,e=.returned v)/\Sep w' (Zaa kb 126 (Zau C M ord (.slice none 0 0) out ow la (.slice none 0 0) 0 false)::F):=by
 have h1:=h.newBlk 25 (Zcf mt pt ht FA fn fc BA bn bc)
 have kX:=h1.at_ (i:=0) rfl
 have kK:=h1.at_ (i:=1) rfl
 have hr1:=Zuf h1 (io:=io+2) hio hrf
 have HFL:=Hd (flist_no mt pt ht fs bn hE hm hp hh hf hfl FA fn fc hfn BA bc _ (by rw[<-hfn];exact hr1))
 have H1:=Hd h1
 unfold Zau at kK
 unfold Zcf at kX
 clear h h1 hio hE hm hp hh hf hfl hfn hrf hr1
 go_enter func15,ntmps15
 unfold Zcf
 go_wp2_with fail
 refine Mo HFL ?_
 rintro e w1 ⟨ty,v,rfl,hb⟩
 have H2:=Hd (H1.out.below hb)
 clear hb HFL H1
 go_wp2
 go_ret2
 exact⟨⟨_,rfl⟩,H2.out.tail⟩
theorem vk_no2 {w w0:World}{F Xs:List Zae}{io kb C M n c k fn fc bn bc:Nat}{A FA BA:Option Addr}{mt pt ht:List UInt8}{fs l:List Fld}{ord:Value}{ow:Int}{cl:List (Int×Value)}(hM:Zxh w0)(hio:F[io]? =some (Zel w0))(hk:k<=8)
  (hE:Zf8 mt pt ht fs bn=0) (hfn:fn=fs.length) (hrf:Zab w0 w0.heap.size 2 FA fn (fvs fs))
  (hl:Zc3 mt pt ht fs=l) (hf:∀f∈l,fOk f) (hll:l.length<=100000) (hS:Ze7 l≠0) (hc:∀j,j < k->∃X,Za8 cl (sid j)=some (ptr X)/\calX X∈Xs)
  (h:Sep w (Zaa kb 126 (Zau C M ord (.slice none 0 0) (.slice A n c) ow (sid k-2) (.slice none 0 0) 0 false)::Zan Zat M cl::Zff Xs::F)):
  CA 15 #[.pointer (some ⟨kb,0,none⟩),.agg (Zcf mt pt ht FA fn fc BA bn bc)] w fun e w'=>(∃v,e=.returned v)/\Sep w' (Zaa kb 126 (Zau C M ord (.slice none 0 0) (.slice A n c) ow (sid k-2) (.slice none 0 0) 0 false)::Zan Zat M cl::Zff Xs::F):=by
 have h1:=h.newBlk 25 (Zcf mt pt ht FA fn fc BA bn bc)
 have kX:=h1.at_ (i:=0) rfl
 have kK:=h1.at_ (i:=1) rfl
 have hM1:=hM.next (h1.old (i:=io+4) hio)
 have hr1:=Zuf h1 (io:=io+4) hio hrf
 have HFL:=Hd (Zoj mt pt ht fs bn hE FA fn fc hfn BA bc _ hM1 (by rw[<-hfn];exact hr1))
 rw[hl]at HFL
 have HOP:=Hd (fun(w1:World) L1 (q:Sep w1 L1) (i1 im ia:Nat) (q1:L1[i1]? =some (Zaa kb 126 (Zau C M ord (.slice none 0 0) (.slice A n c) ow (sid k-2) (.slice none 0 0) 0 false))) (qm:L1[im]? =some (Zan Zat M cl)) (qa:L1[ia]? =some (Zff Xs))=>Zxv q q1 qm qa hc hk rfl)
 have H1:=Hd h1
 obtain⟨la,hla⟩:∃q,sid k-2=q:=⟨_,rfl⟩
 rw[hla]at HOP kK H1⊢
 have HK:=Hd hk
 have HS:=Hd (And.intro hf (And.intro hll hS))
 unfold Zau at kK
 unfold Zcf at kX
 clear h h1 hM hM1 hio hk hE hfn hrf hl hf hll hS hc hr1 hla
 go_enter func15,ntmps15
 unfold Zcf
 go_wp2_with fail
 refine Mo HFL ?_
 rintro e w1 ⟨LA,lc,rfl,hown,hb⟩
 have h2:=H1.out.newRow hb hown
 have kX:=h2.at_ (i:=1) rfl
 have kK:=h2.at_ (i:=2) rfl
 have HOO:=Hd (HOP.out _ _ h2 2 3 4 rfl rfl rfl)
 unfold Zau at kK
 unfold Zcf at kX
 clear h2 hown hb HOP H1 HFL
 go_wp2_with fail
 refine Mo HOO ?_
 rintro e w2 ⟨A2,n2,c2,rfl,hn2,h3⟩
 have i1:¬(16:Int)<=(n2:Int):=by have:=HK.out;omega
 have HEN:=Hd (Zw8 C l HS.out.1 (by have:=HS.out.2.1;omega) HS.out.2.2 LA l.length lc rfl w2 (Zab.of_own (h3.row (i:=0) rfl)))
 have kK2:=h3.at_ (i:=2) rfl
 have H3:=Hd h3
 unfold Zau at kK2
 clear h3 HOO hn2 kK kX
 go_wp2_with fail
 refine Mo HEN ?_
 rintro e w3 ⟨rfl,hb3⟩
 have H4:=Hd (H3.out.below hb3)
 clear hb3 H3 HEN kK2 i1
 go_wp2
 go_ret2
 exact⟨⟨_,rfl⟩,H4.out.tail.tail⟩
def rq0 :Rq:=⟨[],[],[],[],[]⟩
def rsL (acc:List Rq)(k:Nat):Rq:=acc.getD k rq0
def txL (acc:List Rq):Nat->List Fld
 | 0=> []
 | k+1=>Zcs 4096 (txL acc k) (rsL acc k).l
def bkL (acc:List Rq)(k:Nat):List UInt8:=Za0 4096 (txL acc k) (rsL acc k).l
def spL (acc:List Rq):SP:=⟨rsL acc,bkL acc,txL acc,acc.length⟩
def okR (r:Rq):Prop:=Zf8 r.m r.p r.h r.fs r.b.length=0/\Ze7 r.l=0
instance (r:Rq):Decidable (okR r):=by unfold okR;infer_instance
theorem Znx {acc:List Rq}{r:Rq}{k:Nat}(h:k < acc.length):rsL (acc++[r]) k=rsL acc k:=by
 unfold rsL
 rw[List.getD_eq_getElem?_getD,List.getD_eq_getElem?_getD,List.getElem?_append_left h]
theorem Zny (acc:List Rq)(r:Rq):rsL (acc++[r]) acc.length=r:=by
 unfold rsL
 rw[List.getD_eq_getElem?_getD,List.getElem?_append_right (Nat.le_refl _)]
 simp
theorem Zys {acc:List Rq}{k:Nat}(h:k < acc.length):rsL acc k∈acc:=by
 unfold rsL
 rw[List.getD_eq_getElem?_getD,List.getElem?_eq_getElem h]
 exact List.getElem_mem h
theorem Znk {acc:List Rq}{r:Rq}:∀{k:Nat},k<=acc.length->txL (acc++[r]) k=txL acc k
 | 0,_=>rfl
 | k+1,h=>by
  show Zcs 4096 (txL (acc++[r]) k) (rsL (acc++[r]) k).l=Zcs 4096 (txL acc k) (rsL acc k).l
  rw[Znk (k:=k) (by omega),Znx (by omega)]
theorem bkL_old {acc:List Rq}{r:Rq}{k:Nat}(h:k < acc.length):bkL (acc++[r]) k=bkL acc k:=by
 unfold bkL
 rw[Znk (by omega),Znx h]
theorem bkL_new (acc:List Rq)(r:Rq):bkL (acc++[r]) acc.length=Za0 4096 (txL acc acc.length) r.l:=by
 unfold bkL
 rw[Znk (Nat.le_refl _),Zny]
theorem Zvb {acc:List Rq}{r:Rq}:∀{k:Nat},k<=acc.length->Zha (rsL (acc++[r])) k=Zha (rsL acc) k
 | 0,_=>rfl
 | k+1,h=>by
  show Zha (rsL (acc++[r])) k+_=Zha (rsL acc) k+_
  rw[Zvb (by omega),Znx (by omega)]
theorem Zq8 {acc:List Rq}{r:Rq}:∀{k:Nat},k<=acc.length->Zcw (rsL (acc++[r])) (bkL (acc++[r])) k=Zcw (rsL acc) (bkL acc) k
 | 0,_=>rfl
 | k+1,h=>by
  show Zcw _ _ k++_=Zcw _ _ k++_
  rw[Zq8 (by omega),Znx (by omega),bkL_old (by omega)]
theorem Zq4 (acc:List Rq)(r:Rq):Zha (rsL (acc++[r])) (acc++[r]).length=Zha (rsL acc) acc.length+r.b.length:=by
 rw[List.length_append,List.length_singleton]
 show Zha (rsL (acc++[r])) acc.length+_=_
 rw[Zvb (Nat.le_refl _),Zny]
theorem Zxb (acc:List Rq)(r:Rq):Zcw (rsL (acc++[r])) (bkL (acc++[r])) (acc++[r]).length=Zcw (rsL acc) (bkL acc) acc.length++Ztm (sid acc.length) (Za0 4096 (txL acc acc.length) r.l) r.b:=by
 rw[List.length_append,List.length_singleton]
 show Zcw _ _ acc.length++_=_
 rw[Zq8 (Nat.le_refl _),Zny,bkL_new]
theorem txL_snoc (acc:List Rq)(r:Rq):txL (acc++[r]) (acc++[r]).length=Zcs 4096 (txL acc acc.length) r.l:=by
 rw[List.length_append,List.length_singleton]
 show Zcs 4096 (txL (acc++[r]) acc.length) (rsL (acc++[r]) acc.length).l=_
 rw[Znk (Nat.le_refl _),Zny]
theorem Zt1 (acc:List Rq):∀k,wt (txL acc k)<=4096
 | 0=>by show wt []<=4096;decide
 | k+1=>Zn9 _ _ (Zt1 acc k)
structure Zmi (acc:List Rq):Prop where
 len:acc.length<=8
 ok:∀r∈acc,okR r
 sum:Zha (rsL acc) acc.length<=900
theorem Zzg {r:Rq}(h:okR r):Za2 r.l=false/\Zci r.l=false/\wt r.l<=2000:=by
 have h1:=h.2
 unfold Ze7 at h1
 cases h2:Za2 r.l
 ·cases h3:Zci r.l
  ·refine⟨rfl,rfl,?_⟩
   unfold Za2 at h2
   simp only[Bool.or_eq_false_iff,decide_eq_false_iff_not]at h2
   omega
  ·simp[h2,h3]at h1
 ·simp[h2]at h1
theorem Z1k {acc:List Rq}{r:Rq}(h:okR r)(k:Nat):0 < (Za0 4096 (txL acc k) r.l).length/\(Za0 4096 (txL acc k) r.l).length<=2000:=by
 have h1:=Zh8 r.l (txL acc k) (Zt1 acc k)
 have h2:=(Zzg h).2.2
 have h3:3<=r.l.length:=by rw[r.l_exp];simp
 omega
theorem b_le {acc:List Rq}:∀{n k:Nat},k < n->(rsL acc k).b.length<=Zha (rsL acc) n:=fun {n k} h=>by
 have h1:Zha (rsL acc) (k+1)=Zha (rsL acc) k+(rsL acc k).b.length:=rfl
 have h2:=Zlr (rsL acc) (show k+1<=n from h)
 omega
theorem Zmi.sp {acc:List Rq}(h:Zmi acc):SPok (spL acc):=by
 have hrq:∀j,j < acc.length->okR (rsL acc j):=fun j hj=>h.ok _ (Zys hj)
 have hbk:∀j,j < acc.length->0 < (bkL acc j).length/\(bkL acc j).length<=2000:=fun j hj=>Z1k (hrq j hj) j
 refine⟨h.len,fun j hj=>⟨(hrq j hj).1,(hrq j hj).2,?_⟩,h.sum,fun j hj=>(hbk j hj).1,fun j=> ?_,rfl,fun j hj=> ?_⟩
 ·have:=b_le (acc:=acc) (show j < acc.length from hj)
  have:=h.sum
  show(rsL acc j).b.length<=900
  omega
 ·show(bkL acc j).length<=2048
  rcases Nat.lt_or_ge j acc.length with hj | hj
  ·have:=(hbk j hj).2
   omega
  ·have h0:rsL acc j=rq0:=by
    unfold rsL
    rw[List.getD_eq_getElem?_getD,List.getElem?_eq_none hj]
    rfl
   have h1:=Zh8 (rsL acc j).l (txL acc j) (Zt1 acc j)
   have h2:wt rq0.l<=2000:=by decide
   unfold bkL
   rw[h0]at h1⊢
   omega
 ·obtain⟨q1,q2,-⟩:=Zzg (hrq j hj)
  exact Zwm 4096 4096 (Nat.le_refl _) (rsL acc j).l (txL acc j) [] (Zt1 acc j) (by rw[List.nil_append];exact q1) q2
theorem askW_len {id:Int}{blk b:List UInt8}(h:blk.length<=2000):(Ztm id blk b).length<=2100+b.length:=by
 have h1:=Zoe id blk (decide (b.length=0)) (hdM blk)
 have h2:hdM blk<=2:=by unfold hdM Zaq;omega
 have h3:(Zbh ⟨0,1,id,b⟩).length<=9+b.length:=by
  by_cases hf:Zeq ⟨0,1,id,b⟩=0
  ·have:=Zbu hf
   simp only at this
   omega
  ·unfold Zbh
   rw[if_neg hf]
   simp
 unfold Ztm
 rw[List.length_append]
 split
 ·simp only[List.length_nil]
  omega
 ·omega
theorem Zlx {acc:List Rq}(h:Zmi acc):∀k,k<=acc.length->(Zcw (rsL acc) (bkL acc) k).length<=3000*k
 | 0,_=>by simp[Zcw]
 | k+1,hk=>by
  have h1:=Zlx h k (by omega)
  have h2:=(Z1k (acc:=acc) (h.ok _ (Zys (show k < acc.length by omega))) k).2
  have h3:=askW_len (id:=sid k) (blk:=bkL acc k) (b:=(rsL acc k).b) h2
  have h4:=b_le (acc:=acc) (show k < acc.length by omega)
  have h5:=h.sum
  show(Zcw _ _ k++Ztm (sid k) (bkL acc k) (rsL acc k).b).length<=_
  rw[List.length_append]
  omega
structure RqAt (w:World)(v:Array Value)(r:Rq)(FA BA:Option Addr)(fc bc:Nat):Prop where
 v:v=Zcf r.m r.p r.h FA r.fs.length fc BA r.b.length bc
 rf:Zab w w.heap.size 2 FA r.fs.length (fvs r.fs)
 rb:Zab w w.heap.size 1 BA r.b.length (bs r.b)
 nb:BA=none->bc=0
 m:r.m.length<=9223372036854775807
 p:r.p.length<=9223372036854775807
 h:r.h.length<=9223372036854775807
 lf:Zjm r.fs
 fl:r.fs.length<=140737488355328
 bl:r.b.length<=140737488355328
def Kl (acc:List Rq)(kb C M g hh:Nat)(F:List Zae)(w:World):Prop:=
 ∃OA A TA oc c tc cl Xs,Zb7 cl acc.length/\(∀j,j < acc.length->∃X,Za8 cl (sid j)=some (ptr X)/\calX X∈Xs)/\
  Sep w (Zaa kb 126 (Zau C M (.slice OA 0 oc) (.slice none 0 0) (.slice A (Zf6++Zcw (rsL acc) (bkL acc) acc.length).length c) ((2000-Zha (rsL acc) acc.length:Nat):Int) (sid acc.length-2) (.slice none 0 0) 0 false)::
   Zad 5 1 (.slice A (Zf6++Zcw (rsL acc) (bkL acc) acc.length).length c) (Zf6++Zcw (rsL acc) (bkL acc) acc.length).length (bs (Zf6++Zcw (rsL acc) (bkL acc) acc.length))::Zad 3 1 (.slice OA 0 oc) 0 []::Zan Zat M cl::Zff Xs::Zaa C 93 (Zai g hh)::Zbw g TA tc (txL acc acc.length) 4096::F)
theorem ks_step {acc:List Rq}{r:Rq}{v:Array Value}{FA BA:Option Addr}{fc bc kb C M g hh io:Nat}{F:List Zae}{w w0:World}(hM:Zxh w0)(hio:F[io]? =some (Zel w0))(ha:Zmi acc)(hl:acc.length < 8)(hs:Zha (rsL acc) acc.length+r.b.length<=900)(hr:RqAt w0 v r FA BA fc bc)(h:Kl acc kb C M g hh F w):
  CA 15 #[.pointer (some ⟨kb,0,none⟩),.agg v] w fun e w'=>(∃u,e=.returned u)/\Kl (if okR r then acc++[r]else acc) kb C M g hh F w':=by
 obtain⟨OA,A,TA,oc,c,tc,cl,Xs,h1,h2,h3⟩:=h
 have hv:=hr.v
 subst hv
 by_cases hok:okR r
 ·rw[if_pos hok]
  obtain⟨hE,hS⟩:=hok
  obtain⟨q1,q2,q3,q4,q5,q6,q7⟩:=Zdw hE
  have hgood:=Zdu r.fs q7
  have hfk:∀f∈r.l,fOk f:=Zut (Zcv q3).2.1 (Zb1 q4).2.1 (Zbx q6) hgood
  have hll:r.l.length<=100000:=by
   have h5:=(Zzg ⟨hE,hS⟩).1
   unfold Za2 at h5
   simp only[Bool.or_eq_false_iff,decide_eq_false_iff_not]at h5
   omega
  have hbk:=Z1k (acc:=acc) (r:=r) ⟨hE,hS⟩ acc.length
  have hn:(Zf6++Zcw (rsL acc) (bkL acc) acc.length).length<=60000:=by
   have:=Zlx ha acc.length (Nat.le_refl _)
   rw[List.length_append]
   have:Zf6.length=9:=rfl
   omega
  refine(vk_ask (bn:=r.b.length) (ow:=2000-Zha (rsL acc) acc.length) (k:=acc.length) (n:=(Zf6++Zcw (rsL acc) (bkL acc) acc.length).length) hM hio hl hn hE rfl rfl (by omega) (by omega) (by omega) hr.rf hr.rb hr.nb rfl hfk hll hS rfl (by have:=hbk.2;exact Nat.le_trans this (by decide)) (h1.none_ (Nat.le_refl _)) h2 h3).mono ?_
  rintro e w' ⟨⟨u,rfl⟩,A',c',OA',oc',TA',tc',X,h4⟩
  refine⟨⟨u,rfl⟩,OA',A',TA',oc',c',tc',cl++[(sid acc.length,ptr X)],calX X::Xs,?_,?_,?_⟩
  ·rw[List.length_append,List.length_singleton]
   exact h1.snoc _
  ·intro j hj
   rw[List.length_append,List.length_singleton]at hj
   rcases Nat.lt_or_ge j acc.length with hlt | hge
   ·obtain⟨X',g1,g2⟩:=h2 j hlt
    exact⟨X',by rw[Zcu _ (fun e=>by have:=Zht e;omega)];exact g1,List.mem_cons_of_mem _ g2⟩
   ·have:j=acc.length:=by omega
    subst this
    exact⟨X,Zc7 (h1.none_ (Nat.le_refl _)) _,List.mem_cons_self⟩
  ·rw[Zq4,Zxb,txL_snoc]
   have e1:sid (acc++[r]).length-2=sid acc.length:=by rw[List.length_append,List.length_singleton];unfold sid;omega
   have e2:2000-(Zha (rsL acc) acc.length+r.b.length)=2000-Zha (rsL acc) acc.length-r.b.length:=by omega
   have e3:Zf6++(Zcw (rsL acc) (bkL acc) acc.length++Ztm (sid acc.length) (Za0 4096 (txL acc acc.length) r.l) r.b)=Zf6++Zcw (rsL acc) (bkL acc) acc.length++Ztm (sid acc.length) (Za0 4096 (txL acc acc.length) r.l) r.b:=(List.append_assoc _ _ _).symm
   rw[e1,e2,e3,List.length_append]
   exact h4
 ·rw[if_neg hok]
  by_cases hE:Zf8 r.m r.p r.h r.fs r.b.length=0
  ·have hS:Ze7 r.l≠0:=fun e=>hok ⟨hE,e⟩
   obtain⟨q1,q2,q3,q4,q5,q6,q7⟩:=Zdw hE
   have hgood:=Zdu r.fs q7
   have hfk:∀f∈r.l,fOk f:=Zut (Zcv q3).2.1 (Zb1 q4).2.1 (Zbx q6) hgood
   have hll:r.l.length<=100000:=by
    have h5:=Zoo r.fs (fun f hf=>Zbx (hgood f hf).2.1)
    have h6:r.l.length=(Zjy r.fs).length+3:=by rw[r.l_exp];simp
    have h7:401*r.fs.length<=401*40:=Nat.mul_le_mul_left _ q1
    omega
   have h4:=Sep.ordN h3 7 [0,3,4,1,2,5,6] rfl (by decide)
   simp only[Zbo,Zbd,Zam,erS,erZ]at h4
   refine(vk_no2 (k:=acc.length) (io:=io+4) hM hio (by omega) hE rfl hr.rf rfl hfk hll hS h2 h4).mono ?_
   rintro e w' ⟨⟨u,rfl⟩,h5⟩
   have h6:=Sep.ordN h5 7 [0,3,4,1,2,5,6] rfl (by decide)
   simp only[Zbo,Zbd,Zam,erS,erZ]at h6
   exact⟨⟨u,rfl⟩,OA,A,TA,oc,c,tc,cl,Xs,h1,h2,h6⟩
  ·refine(vk_no1 (io:=io+6) hio hE hr.m hr.p hr.h hr.lf hr.fl rfl hr.rf h3).mono ?_
   rintro e w' ⟨⟨u,rfl⟩,h5⟩
   exact⟨⟨u,rfl⟩,OA,A,TA,oc,c,tc,cl,Xs,h1,h2,h5⟩
end
section
open Go.RowKit Go.Shelf Go.Maps
theorem sortsJ (m:Nat):AnyZI.SortsIn prog Tryz.sortedJ_ren Fence.wide m:=
 ⟨fun blk off cap ss W hH hblk hsz=>callsIn_wide.2 (AnyM.slices_Sort_int Tryz.sortJ blk off cap ss W hH hblk hsz),
  fun p cap W=>callsIn_wide.2 (AnyM.slices_Sort_int_none Tryz.sortJ p cap W)⟩
def jobR :Value->Option (DataW Unit×List MemPlace):=fun _=>some (.nil,[])
def Zsh (jo:List (Int×Value)):List (Go.Lit×DataW Unit):=jo.map fun p=>(Go.Lit.int .i64 p.1,(.nil:DataW Unit))
def jobK (jo:List (Int×Value)):List Int:=(jo.map (·.1)).mergeSort leI
theorem job_own {w:World}{L:List Zae}{i JM:Nat}{jo:List (Int×Value)}(h:Sep w L)(hi:L[i]? =some (Zan Zat JM jo))(hs:∀p∈jo,0<=p.1/\p.1<=100)(hd:(jo.map (·.1)).Nodup)(hl:jo.length<=100):w.ownsMap prog 3 jobR JM 100 (.map ((Zsh jo).foldr DataW.insert [])):=by
 obtain⟨es,c,hb,hm,hbo,hno⟩:=h.get hi
 have hes:es.size=jo.length:=by
  have:=congrArg List.length hm
  simpa using this
 have hrd:∀a:Int,0<=a->a<=100->∀x:MapEntry,x.key=Zat a->WideElems.rd prog 3 jobR x=some (Go.Lit.int .i64 a,(.nil:DataW Unit)):=by
  intro a h0 h1 x hx
  have hw:(Go.Lit.int .i64 a).wf=true:=WalkArith.wf_i64 ⟨by omega,by omega⟩
  unfold WideElems.rd
  rw[hx]
  simp[keyOf,Zat,mapKey,underlying3,hw,jobR]
 have hk:∀x∈es.toList,∃p∈jo,x.key=Zat p.1:=by
  intro x hx
  have h1:(x.key,x.val)∈es.toList.map (fun e=>(e.key,e.val)):=List.mem_map.2 ⟨x,hx,rfl⟩
  rw[hm]at h1
  obtain⟨p,hp,e⟩:=List.mem_map.1 h1
  exact⟨p,hp,(congrArg Prod.fst e).symm⟩
 refine⟨es,c,hb,⟨?_,⟨hbo,hno,?_⟩,?_⟩,by omega,?_⟩
 ·have:(100:Nat)<=maxLen:=by decide
  omega
 ·have e1:es.toList.map (fun e=>e.key)=(jo.map (·.1)).map Zat:=by
   have h1:=congrArg (List.map Prod.fst) hm
   rw[List.map_map,List.map_map]at h1
   rw[List.map_map]
   exact h1
  rw[e1]
  exact hd.map Zat (fun a b hab e=>hab (by simpa [Zat]using e))
 ·intro x hx
  obtain⟨p,hp,e⟩:=hk x hx
  exact⟨_,hrd p.1 (hs p hp).1 (hs p hp).2 x e⟩
 ·congr 2
  have key:∀(l:List MapEntry) (q:List (Int×Value)),l.map (fun e=>(e.key,e.val))=q.map (fun p=>(Zat p.1,p.2))->(∀p∈q,0<=p.1/\p.1<=100)->Zsh q=l.map (WideElems.rg prog 3 jobR):=by
   intro l
   induction l with
   | nil=>
    intro q hq _
    cases q with
    | nil=>rfl
    | cons p q=>simp at hq
   | cons x l ih=>
    intro q hq hb2
    cases q with
    | nil=>simp at hq
    | cons p q=>
     simp only[List.map_cons,List.cons.injEq,Prod.mk.injEq]at hq
     have h3:=ih q hq.2 (fun r hr=>hb2 r (List.mem_cons_of_mem _ hr))
     have h4:=hrd p.1 (hb2 p List.mem_cons_self).1 (hb2 p List.mem_cons_self).2 x hq.1.1
     show(Go.Lit.int .i64 p.1,(.nil:DataW Unit))::Zsh q=_
     rw[h3,List.map_cons]
     unfold WideElems.rg
     rw[h4,Option.getD_some]
  exact key _ _ hm hs
theorem job_keys (jo:List (Int×Value)):(intKeys (.map ((Zsh jo).foldr DataW.insert []))).Perm (jo.map (·.1)):=by
 have h1:((Zsh jo).foldr DataW.insert []).Perm (Zsh jo):=WideShapes.sorted_perm _
 have h2:=h1.map fun p=>Go.intOf p.1
 refine h2.trans ?_
 unfold Zsh
 rw[List.map_map]
 exact List.Perm.refl _
theorem vg_jobs {w:World}{L:List Zae}{i j g kb Li St CM JM:Nat}{R log:Value}{jl:Int}{jo:List (Int×Value)}(h:Sep w L)(hi:L[i]? =some (Zan Zat JM jo))(hj:L[j]? =some (Zaa g 120 (Za7 kb R Li St CM JM jl log)))(hs:∀p∈jo,0<=p.1/\p.1<=100)(hd:(jo.map (·.1)).Nodup)(hl:jo.length<=100):
  CA 18 #[.pointer (some ⟨g,0,none⟩)] w fun e w'=>∃(A:Option Addr) (c:Nat),e=.returned (.slice A jo.length c)/\Sep w' (Zad 3 1 (.slice A jo.length c) jo.length ((jobK jo).map encZ)::L):=by
 refine(callsIn_wide (n:=6)).1 ?_
 have hown:=job_own h hi hs hd hl
 have hbl:=hown.lt
 have hsz:Maps.size (.map ((Zsh jo).foldr DataW.insert []):DataW Unit)<=100:=by
  show((Zsh jo).foldr DataW.insert []).length<=100
  rw[(WideShapes.sorted_perm (Zsh jo)).length_eq]
  unfold Zsh
  rw[List.length_map]
  exact hl
 have hsm:Maps.size (.map ((Zsh jo).foldr DataW.insert []):DataW Unit)<=maxLen:=by
  have:(100:Nat)<=maxLen:=by decide
  omega
 have hseq:SeqGives Fence.wide 2 prog 115 #[.pointer (some ⟨w.heap.size,0,none⟩)] encZ (fun ss=>ss.Perm (intKeys (.map ((Zsh jo).foldr DataW.insert []):DataW Unit))) (Maps.size (.map ((Zsh jo).foldr DataW.insert []):DataW Unit)) (w.alloc (.cells #[.map (some JM)] 117)):=
  AnyZI.keys_gives (ρ:=Tryz.keysJ_ren) {Tryz.keysJ with} Fence.wide _ trivial rfl (by omega) w.heap.size JM 100 _ _ (by simp) (by simp) (by
   obtain⟨es,clock,hb,Ft,hs,hD⟩:=hown
   exact⟨es,clock,(Below.heap_alloc _ _ JM hbl).trans hb,Ft,hs,hD⟩)
 have cK:∀mb W,CallsIn Fence.wide 5 prog 61 #[.map mb] W fun e w'=>e=.returned (.func (.func 115) #[] #[.pointer (some ⟨W.heap.size,0,none⟩)])/\w'=W.alloc (.cells #[.map mb] 117):=fun mb W=>AnyZI.keys_in Tryz.keysJ Fence.wide 5 trivial rfl mb W
 have cS:=AnyZI.sorted_in Tryz.sortedJ Fence.wide 5 trivial trivial trivial trivial rfl (by omega) (sortsJ _) (enters_of func114 (by kernel_rfl) rfl) 115 #[.pointer (some ⟨w.heap.size,0,none⟩)] trivial (enters_of func115 (by kernel_rfl) rfl) _ (Maps.size (.map ((Zsh jo).foldr DataW.insert []):DataW Unit)) hsm (by omega) _ hseq
 change CallsIn _ _ prog 60 _ _ _ at cS
 have hfK:Fence.wide.fn 61:=trivial
 have hfS:Fence.wide.fn 60:=trivial
 have kG:=h.at_ hj
 have H:=Hd h
 unfold Za7 at kG
 clear h hown hbl hsz hseq
 refine callsIn_of_wp func18 rfl trivial ?_ rfl
 simp only[ntmps18,List.size_toArray,List.length_cons,List.length_nil,Nat.reduceAdd,Nat.reduceSub,Array.replicate_succ,Array.replicate_zero,List.push_toArray,List.append_toArray,List.nil_append,List.cons_append]
 gi_wp2_with (first
  | (gi_at_call 61;refine(cK _ _).mono ?_;rintro e w' ⟨rfl,rfl⟩)
  | (gi_at_call 60;refine cS.mono ?_;rintro e w' ⟨v,ss,rfl,hS,hrow,hnil,hb⟩))
 go_ret
 have hp:=hS.trans (job_keys jo)
 have hln:ss.length=jo.length:=by rw[hp.length_eq,List.length_map]
 have hms:ss.mergeSort (fun x y=>decide (x<=y))=jobK jo:=mergeSort_of_perm_i hp
 rw[hms,hln]at hrow
 have hrow2:w'.ownsRow (w.alloc (.cells #[.map (some JM)] 117)).heap.size 3 1 v jo.length ((jobK jo).map encZ):=hrow
 obtain⟨A,c,rfl⟩:=Zas hrow2
 exact⟨A,c,rfl,(H.out.alloc (.cells #[.map (some JM)] 117)).newRow hb hrow2⟩
end
section
open Go.RowKit Go.Shelf
theorem Zks {w:World}{L:List Zae}{i n c:Nat}{A:Option Addr}{zs:List Int}(h:Sep w L)(hi:L[i]? =some (Zad 3 1 (.slice A n c) n (zs.map encZ)))(hn:n=zs.length)(h0:0 < n):∃g,A=some ⟨g,0,none⟩/\g < w.heap.size/\n<=c/\∀j (hj:j < zs.length),w.cell? ⟨g,j,none⟩=some (.int .i64 zs[j]):=by
 obtain⟨g,rfl,-⟩:=h.rowAt hi h0
 have hc:=h.cap hi
 have hr:=h.row hi
 refine⟨g,rfl,(hr.lt g rfl).2,hc,fun j hj=> ?_⟩
 have h1:=hr.cells (g:=g) rfl j (.int .i64 zs[j]) (by rw[List.getElem?_map,List.getElem?_eq_getElem hj];rfl)
 rw[Addr.add_lit,Nat.zero_add]at h1
 exact h1
theorem Zzv {w:World}{n c1 c2:Nat}{A B:Option Addr}{zs:List Int}(hn:n=zs.length)(hn1:n<=1000)(hA:0 < n->∃g,A=some ⟨g,0,none⟩/\g < w.heap.size/\n<=c1/\∀j (hj:j < zs.length),w.cell? ⟨g,j,none⟩=some (.int .i64 zs[j]))(hB:0 < n->∃g,B=some ⟨g,0,none⟩/\g < w.heap.size/\n<=c2/\∀j (hj:j < zs.length),w.cell? ⟨g,j,none⟩=some (.int .i64 zs[j])):
  CA 19 #[.slice A n c1,.slice B n c2] w fun e w'=>e=.returned (.bool true)/\Below w.heap.size w w':=by
 have HA:=Hd hA
 have HB:=Hd hB
 have HN:=Hd (And.intro hn hn1)
 clear hA hB hn hn1
 go_enter func19,ntmps19
 go_wp2
 go_loopg [5] n (fun mm i wr=>∃j:Nat,mm+j=n/\i=.int .i64 (j:Int)/\Hid (Below w.heap.size w wr))
 case atStart=>exact⟨0,rfl,rfl,Hd (Below.refl _ _)⟩
 case round=>
  obtain⟨j,hj,rfl,HW⟩:=hrel
  by_cases hlt:j < n
  ·obtain⟨g1,rfl,l1,k1,q1⟩:=HA.out (by omega)
   obtain⟨g2,rfl,l2,k2,q2⟩:=HB.out (by omega)
   have hz:j < zs.length:=by rw[<-HN.out.1];exact hlt
   have p1:=(HW.out.cell (p:=⟨g1,j,none⟩) l1).trans (q1 j hz)
   have p2:=(HW.out.cell (p:=⟨g2,j,none⟩) l2).trans (q2 j hz)
   obtain⟨z,hzz⟩:=exl (zs[j])
   rw[hzz]at p1 p2
   have i1:(j:Int) < (n:Int):=by omega
   obtain⟨jn,hjn⟩:∃q:Int,((j+1:Nat):Int)=q:=⟨_,rfl⟩
   have i2:(j:Int)+1=jn:=by omega
   have i3:wrap64 jn=jn:=by unfold wrap64;have:=HN.out.2;omega
   have i4:¬(j:Int) < 0:=by omega
   have HJ:=Hd (And.intro hj (And.intro hlt hjn))
   clear q1 q2 hzz hz hj hlt hjn l1 l2 k1 k2
   go_wp2
   go_quiet (fail)
   go_wp2
   go_roundg (gk-1)
   case measure=>have:=HJ.out;omega
   case rel=>exact⟨j+1,by have:=HJ.out;omega,by rw[HJ.out.2.2];first | rfl | exact congrArg _ i3,Hd (HW.out.trans (show Below w.heap.size wr (wr.drewN _)from⟨rfl,rfl,rfl,Nat.le_refl _,fun _ _=>rfl⟩))⟩
  ·have hjm:j=n:=by omega
   subst hjm
   have i1:¬(j:Int) < (j:Int):=Int.lt_irrefl _
   clear hlt hj
   go_wp2
   go_ret
   exact⟨rfl,HW.out⟩
structure GN where
 G:Nat
 K:Nat
 rc:Nat
 Li:Nat
 LM:Nat
 LM':Nat
 St:Nat
 CM:Nat
 JM:Nat
 S:Nat
 MS:Nat
 M:Nat
 C:Nat
 gg:Nat
 hh:Nat
 cc:Nat
 RA:Option Addr
 A:Option Addr
def gnL (x:GN):List Zae:=
 [Zaa x.G 120 (Za7 x.K (.slice x.RA 2 x.rc) x.Li x.St x.CM x.JM 0 (.slice none 0 0)),Zak x.JM #[] 0,Zak x.CM #[] 0,Zaa x.St 203 #[.slice none 0 0],Zad 47 3 (.slice x.RA 2 x.rc) 2 Zjv,
  Zaa x.K 200 (Zaf x.C x.S x.M (.slice none 0 0) (.slice none 0 0) (.slice x.A 9 x.cc) 2000 2000 0 false (.pointer none) (.slice none 0 0)),Zad 5 1 (.slice x.A 9 x.cc) 9 (bs Zf6),Zak x.M #[] 0,Zaa x.S 254 #[.map (some x.MS),.int .i64 0],Zak x.MS #[] 0,Zaa x.C 93 (Zai x.gg x.hh),Zbw x.gg none 0 [] 4096,Zbw x.hh none 0 [] 4096,
  Zaa x.Li 193 #[.int .i64 5,.int .i64 5,.map (some x.LM),.map (some x.LM')],Zak x.LM' #[] 0,Zak x.LM #[] 0]
theorem gn_new {w:World}{F:List Zae}(g c:Nat)(hc:2<=c)(h:Sep w (Zaa g 47 Zjv.toArray::F)):
  CA 13 #[.slice (some ⟨g,0,none⟩) 2 c,.int .i64 5,.int .i64 5] w fun e w'=>∃x:GN,e=.returned (.tuple #[.pointer (some ⟨x.G,0,none⟩),.nilIface])/\Sep w' (gnL x++(Zaa g 47 Zjv.toArray::F)):=by
 refine(vt_gnew g c hc h).mono ?_
 rintro e w' ⟨G,K,RA,rc,Li,LM,LM',St,CM,JM,S,MS,M,C,gg,hh,A,cc,rfl,h1⟩
 exact⟨⟨G,K,rc,Li,LM,LM',St,CM,JM,S,MS,M,C,gg,hh,cc,RA,A⟩,rfl,h1⟩
theorem gn_start {acc:List Rq}{w:World}{F:List Zae}{x:GN}(h:Sep w (gnL x++F)):∃a:GF,a.g=x.G/\Bd (spL acc) a F 0 [] w:=Zwr rfl h
theorem kl_new {w:World}{F:List Zae}(h:Sep w F):
  CA 14 #[] w fun e w'=>∃K C M g hh,e=.returned (.pointer (some ⟨K,0,none⟩))/\Kl [] K C M g hh (Zbw hh none 0 [] 4096::F) w':=by
 refine(Z08 h).mono ?_
 rintro e w' ⟨K,M,C,g,hh,A,c,rfl,h1⟩
 refine⟨K,C,M,g,hh,rfl,none,A,none,0,c,0,[],[],Zb7.nil _,(by intro j hj;exact absurd hj (Nat.not_lt_zero _)),?_⟩
 have h2:=h1.mapNilAt (kv:=Zat) (i:=2) rfl
 simp only[List.set_cons_succ,List.set_cons_zero]at h2
 have h3:=Sep.ordN ((h2.nilRow 3 1).manyNil) 8 [2,3,1,4,0,5,6,7] rfl (by decide)
 simp only[Zbo,Zbd,Zam,erS,erZ]at h3
 exact h3
theorem kl_out {acc:List Rq}{kb C M g hh:Nat}{F:List Zae}{w:World}(h:Kl acc kb C M g hh F w):
  CA 16 #[.pointer (some ⟨kb,0,none⟩)] w fun e w'=>∃B c,e=.returned (.slice (some ⟨B,0,none⟩) (Zf6++Zcw (rsL acc) (bkL acc) acc.length).length c)/\(Zf6++Zcw (rsL acc) (bkL acc) acc.length).length<=c/\Sep w' (Zad 5 1 (.slice (some ⟨B,0,none⟩) (Zf6++Zcw (rsL acc) (bkL acc) acc.length).length c) (Zf6++Zcw (rsL acc) (bkL acc) acc.length).length (bs (Zf6++Zcw (rsL acc) (bkL acc) acc.length))::F):=by
 obtain⟨OA,A,TA,oc,c,tc,cl,Xs,h1,h2,h3⟩:=h
 have hpos:0 < (Zf6++Zcw (rsL acc) (bkL acc) acc.length).length:=by
  rw[List.length_append]
  have:Zf6.length=9:=rfl
  omega
 obtain⟨B,rfl,-⟩:=h3.rowAt (i:=1) rfl hpos
 have hc:=h3.cap (i:=1) rfl
 refine(Zlm h3).mono ?_
 rintro e w' ⟨rfl,h4⟩
 have h5:=Sep.ordN h4 7 [1] rfl (by decide)
 simp only[Zbo,Zbd,Zam,erS,erZ]at h5
 exact⟨B,c,rfl,hc,h5⟩
theorem Zpv (X D E:List Zae):(X++(D++E)).Perm (D++(X++E)):=by
 rw[<-List.append_assoc,<-List.append_assoc]
 exact List.perm_append_comm.append_right E
theorem all_said {acc:List Rq}(h:Zmi acc):Zf6++Zcw (rsL acc) (bkL acc) acc.length=Zfk (spL acc).fr (Zdi (spL acc).rs (spL acc).bk (spL acc).N):=by
 have h1:=cat_tot (rs:=rsL acc) (bk:=bkL acc) (h.sp.b1) acc.length
 rw[Zi3.2]at h1
 exact h1.symm
theorem said_len {acc:List Rq}(h:Zmi acc):(Zf6++Zcw (rsL acc) (bkL acc) acc.length).length<=30000:=by
 have h1:=Zlx h acc.length (Nat.le_refl _)
 have h2:=h.len
 rw[List.length_append]
 have:Zf6.length=9:=rfl
 omega
structure GZ where
 g:Nat
 kb:Nat
 Li:Nat
 St:Nat
 CM:Nat
 JM:Nat
 C:Nat
 S:Nat
 M:Nat
 Rt:Value
 lg:Value
 ord:Value
 inn:Value
 part:Value
 evs:Value
 iw:Int
 ow:Int
 un:Int
 bg:Bool
 v:GV
def g5 (z:GZ):List Zae:=[Zaa z.g 120 (Za7 z.kb z.Rt z.Li z.St z.CM z.JM z.v.jl z.lg),Zaa z.kb 200 (Zaf z.C z.S z.M z.ord z.inn (.slice z.v.A z.v.n z.v.c) z.iw z.ow z.un z.bg z.part z.evs),Zad 5 1 (.slice z.v.A z.v.n z.v.c) z.v.n (bs z.v.xs),Zan Zat z.JM z.v.jo,Zff z.v.Js]
theorem Zu1 {acc:List Rq}(ha:Zmi acc){x:GN}{w w0:World}{F:List Zae}{io ix B n c sz:Nat}{X:List UInt8}(hX:Zf6++Zcw (rsL acc) (bkL acc) acc.length=X)(hn:X.length=n)(hP:Pow w0)(hio:F[io]? =some (Zel w0))(hc:n<=c)(hix:F[ix]? =some (Zad 5 1 (.slice (some ⟨B,0,none⟩) n c) n (bs X)))(hs:1<=sz)(hs2:sz<=5000)(h:Sep w (gnL x++F)):
  CA 17 #[.pointer (some ⟨x.G,0,none⟩),.slice (some ⟨B,0,none⟩) n c,.int .i64 (sz:Int)] w fun e w'=>e=.returned (.bool true)/\∃z Y,z.g=x.G/\Dm acc.length z.v (dsR dS1 (rsL acc) acc.length)/\Sep w' (g5 z++(Y++F)):=by
 subst hX
 obtain⟨a,hg,hb⟩:=gn_start (acc:=acc) h
 rw[<-hg]
 refine(Z0i ha.sp hP hio (all_said ha) hn.symm (said_len ha) hc hix hs hs2 hb).mono ?_
 rintro e w' ⟨rfl,h1⟩
 obtain⟨v,Rt,lg,ord,inn,part,evs,iw,ow,un,bg,Y,h2,h3⟩:=bd_end h1
 exact⟨rfl,⟨a.g,a.kb,a.Li,a.St,a.CM,a.JM,a.C,a.S,a.M,Rt,lg,ord,inn,part,evs,iw,ow,un,bg,v⟩,Y,rfl,h2,h3⟩
theorem jb_len {acc:List Rq}(ha:Zmi acc):∀i,i<=acc.length->∀x∈(dsR dS1 (rsL acc) i).jb,x.2.2.length<=100000
 | 0,_,x,hx=>by cases hx
 | i+1,hi,x,hx=>by
  have ih:=jb_len ha i (by omega)
  have hx2:x∈((dsR dS1 (rsL acc) i).whole i (rsL acc i)).jb:=hx
  generalize dsR dS1 (rsL acc) i=d at ih hx2
  generalize rsL acc i=r at hx2
  unfold DS.whole at hx2
  split at hx2
  ·rw[(Zq9 _ _ _).2.2]at hx2
   exact ih x hx2
  ·rename_i hb
   split at hx2
   ·split at hx2
    ·rw[(Zq9 _ _ _).2.2]at hx2
     exact ih x hx2
    ·rename_i tq r' hq
     rcases List.mem_append.1 (show x∈d.jb++[(i,tq,Zjt r.m r' r.h r.q r.b)]from hx2)with h1 | h1
     ·exact ih x h1
     ·rw[List.mem_singleton.1 h1]
      have hE:=Zx8 (Rq.good hb) hq
      obtain⟨q1,q2,q3,q4,q5,q6,q7⟩:=Zdw hE
      have hgood:=Zdu r.q q7
      have:=Zox r.m r' r.h r.q r.b (Zcv q3).2.1 (Zb1 q4).2.1 (Zbx q6) (Zg3 q1 hgood) q2
      show(Zjt r.m r' r.h r.q r.b).length<=100000
      omega
   ·rw[(Zq9 _ _ _).2.2]at hx2
    exact ih x hx2
theorem jb_few (acc:List Rq):(dsR dS1 (rsL acc) acc.length).jb.length<=acc.length:=by
 have h1:=(Z0q (d0:=dS1) (rsL acc) ⟨by decide,rfl,by decide⟩ acc.length).na
 omega
def Zwe (n:Nat):List Int:=((List.range n).map fun i=>((i+1:Nat):Int)).mergeSort leI
theorem Zgy (n:Nat):(Zwe n).length=n:=by
 unfold Zwe
 rw[(List.mergeSort_perm _ _).length_eq,List.length_map,List.length_range]
theorem keyL_at (n t:Nat)(h:t < (Zwe n).length):∃i,i < n/\(Zwe n)[t]=((i+1:Nat):Int):=by
 have h1:(Zwe n)[t]∈Zwe n:=List.getElem_mem h
 have h2:(Zwe n)[t]∈(List.range n).map fun i=>((i+1:Nat):Int):=(List.mergeSort_perm _ _).mem_iff.1 h1
 obtain⟨i,h3,h4⟩:=List.mem_map.1 h2
 exact⟨i,List.mem_range.1 h3,h4.symm⟩
theorem Z1v {K:Type} [DecidableEq K]:∀{l:List (K×Value)},(l.map (·.1)).Nodup->∀{i:Nat} {k:K} {v:Value},l[i]? =some (k,v)->Za8 l k=some v
 | [],_,i,k,v,h=>by simp at h
 | p::l,hn,i,k,v,h=>by
  rw[List.map_cons,List.nodup_cons]at hn
  cases i with
  | zero=>
   have:p=(k,v):=by simpa using h
   subst this
   unfold Za8
   simp
  | succ i=>
   have h2:l[i]? =some (k,v):=by simpa using h
   have h3:=Z1v hn.2 h2
   have h4:p.1≠k:=fun e=>hn.1 (List.mem_map.2 ⟨(k,v),List.mem_of_getElem? h2,e.symm⟩)
   unfold Za8 at h3⊢
   rw[List.find?_cons_of_neg (by simpa using h4)]
   exact h3
theorem g_jobs {N:Nat}{d:DS}{w:World}{L:List Zae}{i j:Nat}(z:GZ)(hd:Dm N z.v d)(hl:d.jb.length<=100)(h:Sep w L)(hi:L[i]? =some (Zan Zat z.JM z.v.jo))(hj:L[j]? =some (Zaa z.g 120 (Za7 z.kb z.Rt z.Li z.St z.CM z.JM z.v.jl z.lg))):
  CA 18 #[.pointer (some ⟨z.g,0,none⟩)] w fun e w'=>∃(A:Option Addr) (c:Nat),e=.returned (.slice A d.jb.length c)/\Sep w' (Zad 3 1 (.slice A d.jb.length c) d.jb.length ((Zwe d.jb.length).map encZ)::L):=by
 have hjo:=hd.jo
 have hk:=hjo.key
 have hs:∀p∈z.v.jo,0<=p.1/\p.1<=100:=by
  intro p hp
  have h1:p.1∈z.v.jo.map (·.1):=List.mem_map.2 ⟨p,hp,rfl⟩
  rw[hk]at h1
  obtain⟨q,h2,h3⟩:=List.mem_map.1 h1
  have:=List.mem_range.1 h2
  omega
 refine(vg_jobs h hi hj hs hjo.nodup (by rw[hjo.len];exact hl)).mono ?_
 rintro e w' ⟨A,c,rfl,h1⟩
 rw[hjo.len]at h1⊢
 unfold jobK at h1
 rw[hk]at h1
 exact⟨A,c,rfl,h1⟩
theorem g_job {d:DS}{t n:Nat}{ky:Int}(hn:d.jb.length=n)(hk:(Zwe n)[t]? =some ky)(hb:∀x∈d.jb,x.2.2.length<=100000):∃(tq:ByteArray) (b:List UInt8),∀(z:GZ) (N:Nat) (w:World) (L:List Zae) (i j m:Nat),Dm N z.v d->Sep w L->L[i]? =some (Zaa z.g 120 (Za7 z.kb z.Rt z.Li z.St z.CM z.JM z.v.jl z.lg))->L[j]? =some (Zan Zat z.JM z.v.jo)->L[m]? =some (Zff z.v.Js)->
  CA 20 #[.pointer (some ⟨z.g,0,none⟩),.int .i64 ky] w fun e w'=>∃A c,e=.returned (.tuple #[.string tq,.slice A b.length c,.nilIface])/\Sep w' (Zad 5 1 (.slice A b.length c) b.length (bs b)::L):=by
 subst hn
 obtain⟨ht,hk⟩:=List.getElem?_eq_some_iff.1 hk
 obtain⟨i,hi,he⟩:=keyL_at _ t ht
 have hx:=List.getElem?_eq_getElem hi
 obtain⟨x,hxx⟩:=exl (d.jb[i])
 rw[hxx]at hx
 have hbx:=hb x (List.mem_of_getElem? hx)
 rw[<-hk,he]
 refine⟨⟨x.2.1.toArray⟩,x.2.2,fun z N w L i' j m hD h h1 h2 h3=> ?_⟩
 obtain⟨ad,c,h4,h5⟩:=hD.jo.at_ i x hx
 exact vg_job h h1 h2 (Z1v hD.jo.nodup h4) rfl hbx h3 h5
theorem Zyt {w:World}{L:List Zae}{i n c t:Nat}{A:Option Addr}{zs:List Int}{ky:Int}(h:Sep w L)(hi:L[i]? =some (Zad 3 1 (.slice A n c) n (zs.map encZ)))(hn:zs.length=n)(hk:zs[t]? =some ky):∃g,A=some ⟨g,0,none⟩/\w.cell? ⟨g,t,none⟩=some (.int .i64 ky):=by
 obtain⟨ht,hk⟩:=List.getElem?_eq_some_iff.1 hk
 obtain⟨g,h1,-,-,h2⟩:=Zks h hi hn.symm (by omega)
 exact⟨g,h1,by rw[<-hk];exact h2 t ht⟩
theorem g_out {N:Nat}{d:DS}{w:World}{F:List Zae}(z:GZ)(hd:Dm N z.v d)(h:Sep w (g5 z++F)):
  CA 21 #[.pointer (some ⟨z.g,0,none⟩)] w fun e w'=>∃A c,e=.returned (.slice A d.xs.length c)/\Sep w' (Zad 5 1 (.slice A d.xs.length c) d.xs.length (bs d.xs)::F):=by
 refine(Zk9 (F:=Zad 5 1 (.slice z.v.A z.v.n z.v.c) z.v.n (bs z.v.xs)::Zan Zat z.JM z.v.jo::Zff z.v.Js::F) h).mono ?_
 rintro e w' ⟨rfl,h1⟩
 rw[hd.xs,hd.n]at h1
 rw[hd.n]
 have h2:=Sep.ordN h1 5 [2] rfl (by decide)
 simp only[Zbo,Zbd,Zam,erS,erZ]at h2
 exact⟨z.v.A,z.v.c,rfl,h2⟩
section
open Classical
theorem perm_two {α:Type}(X T r o:α)(A B:List α):(X::T::(B++(r::(A++[o])))).Perm (A++(X::o::T::r::B)):=by
 rw[List.perm_iff_count]
 intro a
 simp only[List.count_append,List.count_cons,List.count_nil]
 omega
theorem Zy6 {α:Type}(X T r o:α)(Z Y B:List α):(Z++(Y++(X::o::T::r::B))).Perm (B++(X::o::(Z++(Y++[T,r])))):=by
 rw[List.perm_iff_count]
 intro a
 simp only[List.count_append,List.count_cons,List.count_nil]
 omega
theorem Zy5 {α:Type}(X o:α)(Z Z2 Y W:List α):(Z2++(Y++(X::o::(Z++W)))).Perm (Z++(Z2++(o::X::(Y++W)))):=by
 rw[List.perm_iff_count]
 intro a
 simp only[List.count_append,List.count_cons]
 omega
end
def OneOk :Prop:=∀w,Pow w->Zxh w->DeB w->CA 5 #[] w fun e w'=>e=.returned (.bool true)/\Below w.heap.size w w'
end
end Go.Proofs.YtbgnggkgmeagkaaGreatDoor
