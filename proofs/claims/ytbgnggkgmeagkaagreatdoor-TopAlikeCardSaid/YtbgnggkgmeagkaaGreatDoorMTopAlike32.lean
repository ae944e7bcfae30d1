/-
  A part of the proof of TopAlike: each theorem states its own conditions.
-/
import Derived.Test.YtbgnggkgmeagkaaGreatDoorMTopAlike31
set_option linter.unusedSimpArgs false
set_option linter.unusedVariables false
set_option maxRecDepth 100000
set_option maxHeartbeats 16000000
namespace Go.Proofs.YtbgnggkgmeagkaaGreatDoor
open Go.Proofs.Tryz
section
open Go.RowKit Go.Shelf
def dS0 :DS:=⟨[],Zf6,0,fun _=>none,[]⟩
def dS1 :DS:=⟨[],Zf6++Zf5,0,fun _=>none,[]⟩
structure SP where
 rs:Nat->Rq
 bk:Nat->List UInt8
 ty:Nat->List Fld
 N:Nat
structure SPok (p:SP):Prop where
 N:p.N<=8
 rq:∀j,j < p.N->RqOk (p.rs j)
 sum:Zha p.rs p.N<=900
 b0:∀j,j < p.N->0 < (p.bk j).length
 b1:∀j,(p.bk j).length<=2048
 ty0:p.ty 0=[]
 heard:∀j,j < p.N->heard 4096 (p.ty j) 4096 [] (p.bk j)=⟨0,p.ty (j+1),4096,(p.rs j).l,0⟩
def SP.pos (p:SP)(j:Nat):Pos:=Zgg p.rs p.bk j
def SP.fr (p:SP)(j:Nat):Frm:=frA p.rs p.bk j
def SP.ds (p:SP)(q:Pos)(k:Nat):DS:=match q with
 | .S=>dS0
 | _=>dsR dS1 p.rs k
def Ziw (p:SP)(q:Pos)(k:Nat)(ps:List Stg)(c:GC)(v:GV)(pt:List Zae):Prop:=match q with
 | .S=>k=0/\ps=[]/\pt=[]/\c.part=.pointer none/\c.bg=false/\v.OA=none/\v.oc=0
 | .H n=>k+ps.length=n/\(∀s∈ps,s.whole=true)/\pt=[]/\c.part=.pointer none/\c.bg=true
 | .M n=>k+ps.length=n/\(∀s∈ps,s.whole=true)/\c.bg=true/\∃P A0 c0,c.part=.pointer (some ⟨P,0,none⟩)/\pt=[Zaa P 307 (Zbr (sid n) 1 (Zh1 p.rs n) (.slice A0 (pcB (p.bk n) 0).length c0)),Zad 5 1 (.slice A0 (pcB (p.bk n) 0).length c0) (pcB (p.bk n) 0).length (bs (pcB (p.bk n) 0))]
 | .D n=>∃ps' s,ps=ps'++[s]/\k+ps'.length=n/\(∀s∈ps',s.whole=true)/\s.whole=false/\pt=[]/\c.part=.pointer none/\c.bg=true
def rL (a:GF)(v:GV)(F:List Zae):List Zae:=
 Zaa a.g 120 (Za7 a.kb (.slice (some ⟨a.rg,0,none⟩) 2 a.rc) a.Li a.St a.CM a.JM v.jl (.slice v.LA v.nl v.lc))::Zbw a.gg v.TA v.tc v.tx 4096::
 Zad 5 1 (.slice v.A v.n v.c) v.n (bs v.xs)::Zad 3 1 (.slice v.OA 0 v.oc) 0 []::
 Zad 233 6 (.slice v.LA v.nl v.lc) v.nl v.lx::Zan Zat a.CM v.gl::Zaa a.Li 193 #[.int .i64 5,.int .i64 5,.map (some a.LM),.map (some a.LM')]::Zan Zed a.LM' v.se::Zan Zed a.LM v.ll::Zo5 v.bl::Zaa a.St 203 #[.slice none 0 0]::
 Zad 47 3 (.slice (some ⟨a.rg,0,none⟩) 2 a.rc) 2 Zjv::Zan Zat a.JM v.jo::Zff v.Js::F
def cL (a:GF)(c:GC)(v:GV)(E:Option Addr)(ec:Nat)(l:List Ev)(TI:Option Addr)(ti:Nat)(ty:List Fld)(F:List Zae):List Zae:=
 Zad 215 6 (.slice E l.length ec) l.length (Zre l)::Zan Zat a.M c.cl::Zaa a.S 254 (Zbf a.MS c.last)::Zan Zat a.MS v.sl::Zaa a.C 93 (Zai a.gg a.hh)::Zbw a.hh TI ti ty 4096::F
def Rst (p:SP)(a:GF)(R:List Zae)(j:Nat)(ord out:Value)(iw ow un:Int)(began:Bool)(part evs:Value)(G:List Zae):Prop:=
 ∃k ps c v pt E ec TI ti,ord=.slice v.OA 0 v.oc/\out=.slice v.A v.n v.c/\iw=c.iw/\ow=(v.ow:Int)/\un=c.un/\began=c.bg/\part=c.part/\evs=.slice E (pdE p.rs k ps).length ec/\
  Zh2 p.rs k ps c v/\Dm k v (p.ds (p.pos j) k)/\Ziw p (p.pos j) k ps c v pt/\k+ps.length<=p.N/\G=cL a c v E ec (pdE p.rs k ps) TI ti (p.ty (k+ps.length)) (pt++rL a v (pdL p.rs k ps++R))
theorem Zk2 (rs:Nat->Rq):∀(ps:List Stg) (k:Nat),(pdE rs k ps).length<=2*ps.length
 | [],k=>by simp[pdE]
 | s::ps,k=>by
  have h1:=Zk2 rs ps (k+1)
  have h2:(s.ev k (rs k)).length<=2:=by cases s <;> simp[Stg.ev]
  show(s.ev k (rs k)++pdE rs (k+1) ps).length<=_
  rw[List.length_append,List.length_cons]
  omega
theorem Zn5 (P A B S R:List Zae):(P++(S++(A++(B++R)))).Perm (P++(A++((B++S)++R))):=by
 refine List.Perm.append_left P ?_
 rw[List.append_assoc B S R]
 exact(Zk1 A B S R).symm
theorem hear_S {p:SP}(hp:SPok p){a:GF}{R:List Zae}{j:Nat}(hj:p.pos j=.S){ord out part evs inn:Value}{iw ow un:Int}{began:Bool}{G:List Zae}(hR:Rst p a R j ord out iw ow un began part evs G){w1:World}{rI:Zae}{BA:Option Addr}{b1:Nat}
  (h:Sep w1 (Zaa a.kb 200 (Zaf a.C a.S a.M ord inn out iw ow un began part evs)::rI::Zad 5 1 (.slice BA (p.fr j).body.length b1) (p.fr j).body.length (bs (p.fr j).body)::G)):
  CA 162 #[.pointer (some ⟨a.kb,0,none⟩),frV (p.fr j) BA b1] w1 fun e w'=>e=.returned (.tuple #[])/\∃ord out iw ow un began part evs G,Rst p a R (j+1) ord out iw ow un began part evs G/\
   Sep w' (Zaa a.kb 200 (Zaf a.C a.S a.M ord inn out iw ow un began part evs)::rI::G):=by
 obtain⟨k,ps,c,v,pt,E,ec,TI,ti,rfl,rfl,rfl,rfl,rfl,rfl,rfl,rfl,hpe,hm,hi,hkN,rfl⟩:=hR
 have hf:p.fr j=setF:=by show Pos.frm p.rs p.bk (p.pos j)=_;rw[hj];rfl
 rw[hj]at hi hm
 obtain⟨rfl,rfl,rfl,i4,i5,i6,i7⟩:=hi
 rw[hf]at h⊢
 rw[i4,i6,i7]at h
 have h1:=Sep.ordN h 13 [0,11,1,3,4,5,6,7,8,9,10,12] rfl (by decide)
 simp only[cL,rL,Zbo,Zam,Zbd,erS,erZ,List.cons_append,List.nil_append,List.drop_succ_cons,List.drop_zero]at h1
 have hn:v.n<=1000:=by rw[hm.n];show Zf6.length<=1000;decide
 refine(Zll (BA:=BA) (bc:=b1) hn h1).mono ?_
 rintro e w' ⟨rfl,A',c',h2⟩
 have h3:=Sep.ordN h2 12 [0,2,3,4,5,6,7,8,9,10,1,11] rfl (by decide)
 simp only[Zbo,Zbd,Zam,erS,erZ]at h3
 have hpos:p.pos (j+1)=.H 0:=by show Pos.next p.rs p.bk (p.pos j)=_;rw[hj];rfl
 rw[i6,i7]at h3
 refine⟨rfl,_,_,_,_,_,_,_,_,_,⟨0,[],⟨c.inn,.pointer none,c.evs,c.iw,c.un,c.last,true,c.cl⟩,⟨v.TA,none,A',v.LA,v.tc,0,v.n+9,c',v.nl,v.lc,v.ow,v.tx,v.xs++Zf5,v.lx,v.sl,v.gl,v.jo,v.se,v.ll,v.bl,v.jl,v.Js⟩,[],E,ec,TI,ti,rfl,rfl,rfl,rfl,rfl,rfl,rfl,rfl,?_,?_,?_,hkN,rfl⟩,h3⟩
 ·exact⟨hpe.kc,hpe.ks,hpe.kg,hpe.int,hpe.last,hpe.st,hpe.iw,hpe.un,hpe.ord⟩
 ·rw[hpos]
  refine⟨hm.tx,?_,?_,hm.ow,hm.nl,hm.lim,hm.ll,hm.jl,hm.jo⟩
  ·show v.xs++Zf5=Zf6++Zf5
   rw[hm.xs]
   rfl
  ·show v.n+9=(Zf6++Zf5).length
   rw[hm.n]
   rfl
 ·rw[hpos]
  exact⟨rfl,(by intro s hs;cases hs),rfl,rfl,rfl⟩
theorem aft_inv {p:SP}{n k:Nat}{ps:List Stg}{s:Stg}{c:GC}{v:GV}(hn:k+ps.length=n)(hw:∀s∈ps,s.whole=true)(hs:s.whole=decide ((p.rs n).b.length=0))(hpa:c.part=.pointer none)(hbg:c.bg=true):Ziw p (Zoy p.rs n) k (ps++[s]) c v []:=by
 unfold Zoy
 split
 ·rename_i h0
  refine⟨by rw[List.length_append,List.length_singleton];omega,fun x hx=> ?_,rfl,hpa,hbg⟩
  rcases List.mem_append.1 hx with h1 | h1
  ·exact hw x h1
  ·rw[List.mem_singleton.1 h1,hs,h0]
   rfl
 ·rename_i h0
  exact⟨ps,s,rfl,hn,hw,by rw[hs];exact decide_eq_false h0,rfl,hpa,hbg⟩
theorem ds_H (p:SP)(n k:Nat):p.ds (.H n) k=dsR dS1 p.rs k/\p.ds (.M n) k=dsR dS1 p.rs k/\p.ds (.D n) k=dsR dS1 p.rs k/\p.ds (Zoy p.rs n) k=dsR dS1 p.rs k:=by
 refine⟨rfl,rfl,rfl,?_⟩
 unfold Zoy
 split <;> rfl
theorem Zqb {p:SP}{a:GF}{R:List Zae}{j n k:Nat}{ps:List Stg}{c:GC}{v:GV}{inn:Value}{rI:Zae}{w':World}(hpe:Zh2 p.rs k ps c v)(hm:Dm k v (dsR dS1 p.rs k))(hn:k+ps.length=n)(hw:∀s∈ps,s.whole=true)(hbg:c.bg=true)(hnN:n < p.N)(hpos:p.pos (j+1)=Zoy p.rs n)
  (h:Z1z (rL a v (pdL p.rs k ps++R)) rI a.kb a.C a.S a.M a.MS a.gg a.hh n (pdE p.rs k ps).length (p.ty (n+1)) (p.rs n).l (Zre (pdE p.rs k ps)) c.cl v.sl (.slice v.OA 0 v.oc) inn (.slice v.A v.n v.c) c.iw (v.ow:Int) c.un (Zh1 p.rs n) w'):
  ∃ord out iw ow un began part evs G,Rst p a R (j+1) ord out iw ow un began part evs G/\Sep w' (Zaa a.kb 200 (Zaf a.C a.S a.M ord inn out iw ow un began part evs)::rI::G):=by
 obtain⟨X,D,dc,E,ec,TA',tc',h1⟩:=h
 obtain⟨s,hX,hnew,hcall,hun0,hbo,hst,hwh,hat,hev⟩:∃s:Stg,s.X=X/\s.new=true/\s.call=none/\s.un (p.rs n)=0/\(s.body=true↔(p.rs n).b≠[])/\s.st=(if Zh1 p.rs n then 2 else 1)/\s.whole=decide ((p.rs n).b.length=0)/\s.at_ (p.rs n)=[chn0 X,fldA D dc (p.rs n).l]/\s.ev n (p.rs n)=[evA n D (p.rs n).l.length dc (Zh1 p.rs n)]:=by
  unfold Zh1
  by_cases h0:(p.rs n).b.length=0
  ·have h2:(p.rs n).b=[]:=List.eq_nil_of_length_eq_zero h0
   refine⟨.AE X D dc,rfl,rfl,rfl,rfl,?_,?_,?_,rfl,?_⟩
   ·simp[Stg.body,h2]
   ·simp[Stg.st,h0]
   ·simp[Stg.whole,h0]
   ·simp[Stg.ev,h0]
  ·have h2:(p.rs n).b≠[]:=fun e=>h0 (by rw[e];rfl)
   refine⟨.A X D dc,rfl,rfl,rfl,rfl,?_,?_,?_,rfl,?_⟩
   ·simp[Stg.body,h2]
   ·simp[Stg.st,h0]
   ·simp[Stg.whole,h0]
   ·simp[Stg.ev,h0]
 have e1:pdL p.rs k (ps++[s])=pdL p.rs k ps++[chn0 X,fldA D dc (p.rs n).l]:=by rw[Zj3,hn,hat]
 have e2:pdE p.rs k (ps++[s])=pdE p.rs k ps++[evA n D (p.rs n).l.length dc (Zh1 p.rs n)]:=by rw[Zj4,hn,hev]
 have e3:Zre (pdE p.rs k (ps++[s]))=Zre (pdE p.rs k ps)++(evV 1 (sid n) 0 (.slice D (p.rs n).l.length dc) (.slice none 0 0) (Zh1 p.rs n)).toList:=by rw[e2,Zqm];rfl
 have e4:(pdE p.rs k (ps++[s])).length=(pdE p.rs k ps).length+1:=by rw[e2];simp
 have e5:k+(ps++[s]).length=n+1:=by rw[List.length_append,List.length_singleton];omega
 obtain⟨cl2,hc2⟩:∃q,c.cl++[(sid n,ptr X)]=q:=⟨_,rfl⟩
 obtain⟨sl2,hs2⟩:∃q,v.sl++[(sid n,Value.int .i64 (if Zh1 p.rs n then 2 else 1))]=q:=⟨_,rfl⟩
 rw[hc2,hs2,<-e3,<-e4]at h1
 refine⟨_,_,_,_,_,_,_,_,_,⟨k,ps++[s],⟨c.inn,.pointer none,c.evs,c.iw,c.un,sid n,true,cl2⟩,⟨v.TA,v.OA,v.A,v.LA,v.tc,v.oc,v.n,v.c,v.nl,v.lc,v.ow,v.tx,v.xs,v.lx,sl2,v.gl,v.jo,v.se,v.ll,v.bl,v.jl,v.Js⟩,[],E,ec,TA',tc',rfl,rfl,rfl,rfl,rfl,rfl,rfl,rfl,?_,?_,?_,?_,rfl⟩,?_⟩
 ·exact hpe.head hw hn hX hnew hcall hun0 hbo hc2.symm rfl rfl rfl (by rw[hst];exact hs2.symm) rfl
 ·rw[hpos,(ds_H p n k).2.2.2]
  exact⟨hm.tx,hm.xs,hm.n,hm.ow,hm.nl,hm.lim,hm.ll,hm.jl,hm.jo⟩
 ·rw[hpos]
  exact aft_inv hn hw hwh rfl rfl
 ·rw[e5]
  exact hnN
 ·rw[e1,e5]
  refine h1.perm ?_
  exact Zn5 [_,_,_,_,_,_,_,_] [_,_,_,_,_,_,_,_,_,_,_,_,_,_] (pdL p.rs k ps) [_,_] R
theorem hear_H {p:SP}(hp:SPok p){a:GF}{R:List Zae}{j n:Nat}(hj:p.pos j=.H n)(hnN:n < p.N){ord out part evs inn:Value}{iw ow un:Int}{began:Bool}{G:List Zae}(hR:Rst p a R j ord out iw ow un began part evs G){w1:World}{rI:Zae}{BA:Option Addr}{b1:Nat}
  (h:Sep w1 (Zaa a.kb 200 (Zaf a.C a.S a.M ord inn out iw ow un began part evs)::rI::Zad 5 1 (.slice BA (p.fr j).body.length b1) (p.fr j).body.length (bs (p.fr j).body)::G)):
  CA 162 #[.pointer (some ⟨a.kb,0,none⟩),frV (p.fr j) BA b1] w1 fun e w'=>e=.returned (.tuple #[])/\∃ord out iw ow un began part evs G,Rst p a R (j+1) ord out iw ow un began part evs G/\
   Sep w' (Zaa a.kb 200 (Zaf a.C a.S a.M ord inn out iw ow un began part evs)::rI::G):=by
 obtain⟨k,ps,c,v,pt,E,ec,TI,ti,rfl,rfl,rfl,rfl,rfl,rfl,rfl,rfl,hpe,hm,hi,hkN,rfl⟩:=hR
 have hf:p.fr j=hdF (sid n) (p.bk n) (Zh1 p.rs n) (hdM (p.bk n)) 0:=by show Pos.frm p.rs p.bk (p.pos j)=_;rw[hj];rfl
 have hnx:p.pos (j+1)=if 1024 < (p.bk n).length then .M n else Zoy p.rs n:=by show Pos.next p.rs p.bk (p.pos j)=_;rw[hj];rfl
 rw[hj]at hi hm
 obtain⟨i1,i2,rfl,i4,i5⟩:=hi
 have hN:=hp.N
 have hb1:=hp.b1 n
 have hb0:=hp.b0 n hnN
 have hle:=Zk2 p.rs ps k
 rw[hf]at h⊢
 rw[i4,i5,i1]at h
 by_cases hbig:1024 < (p.bk n).length
 ·rw[if_pos hbig]at hnx
  have e0:frV (hdF (sid n) (p.bk n) (Zh1 p.rs n) (hdM (p.bk n)) 0) BA b1=.agg #[.int .i64 1,.int .i64 ((if Zh1 p.rs n then 1 else 0)+0),.int .i64 (sid n),.slice BA (pcB (p.bk n) 0).length b1]:=by
   rw[Zso hbig hb1]
   rfl
  rw[e0]
  have hb2:(pcB (p.bk n) 0).length<=1024:=by rw[Zek];omega
  refine(vx_headN (k:=n) (Zh1 p.rs n) hb2 h).mono ?_
  rintro e w' ⟨rfl,P,c5,A5,h2⟩
  refine⟨rfl,_,_,_,_,_,_,_,_,_,⟨k,ps,⟨c.inn,.pointer (some ⟨P,0,none⟩),c.evs,c.iw,c.un,c.last,true,c.cl⟩,v,[Zaa P 307 (Zbr (sid n) 1 (Zh1 p.rs n) (.slice A5 (pcB (p.bk n) 0).length c5)),Zad 5 1 (.slice A5 (pcB (p.bk n) 0).length c5) (pcB (p.bk n) 0).length (bs (pcB (p.bk n) 0))],E,ec,TI,ti,rfl,rfl,rfl,rfl,rfl,rfl,rfl,rfl,?_,?_,?_,hkN,rfl⟩,?_⟩
  ·exact⟨hpe.kc,hpe.ks,hpe.kg,hpe.int,hpe.last,hpe.st,hpe.iw,hpe.un,hpe.ord⟩
  ·rw[hnx]
   exact hm
  ·rw[hnx]
   exact⟨i1,i2,rfl,P,A5,c5,rfl,rfl⟩
  ·rw[i1]
   exact h2
 ·rw[if_neg hbig]at hnx
  have e1:pcB (p.bk n) 0=p.bk n:=by
   unfold pcB
   simp[List.take_of_length_le (show(p.bk n).length<=1024 by omega)]
  have e0:frV (hdF (sid n) (p.bk n) (Zh1 p.rs n) (hdM (p.bk n)) 0) BA b1=.agg #[.int .i64 1,.int .i64 ((if Zh1 p.rs n then 1 else 0)+4),.int .i64 (sid n),.slice BA (p.bk n).length b1]:=by
   rw[Zz4 (b:=p.bk n) (by omega)]
   show Value.agg #[_,_,_,.slice BA (pcB (p.bk n) 0).length b1]=_
   rw[e1]
   rfl
  have e2:(hdF (sid n) (p.bk n) (Zh1 p.rs n) (hdM (p.bk n)) 0).body=p.bk n:=e1
  rw[e0]
  rw[e2]at h
  have q1:=hpe.kc
  have q2:=hpe.ks
  have q3:=hpe.last
  rw[i1]at q1 q2 q3
  refine(vx_headW (by omega) (Zh1 p.rs n) hb0 (by omega) (by omega) (by rw[q3];exact Zp8 n) (q1.none_ (Nat.le_refl _)) (q2.none_ (Nat.le_refl _)) q2.nd (by have:=q2.len;omega) hpe.int (hp.heard n hnN) h).mono ?_
  rintro e w' ⟨rfl,h2⟩
  exact⟨rfl,Zqb hpe hm i1 i2 i5 hnN hnx h2⟩
theorem hear_M {p:SP}(hp:SPok p){a:GF}{R:List Zae}{j n:Nat}(hj:p.pos j=.M n)(hnN:n < p.N)(hbig:1024 < (p.bk n).length){ord out part evs inn:Value}{iw ow un:Int}{began:Bool}{G:List Zae}(hR:Rst p a R j ord out iw ow un began part evs G){w1:World}{rI:Zae}{BA:Option Addr}{b1:Nat}
  (h:Sep w1 (Zaa a.kb 200 (Zaf a.C a.S a.M ord inn out iw ow un began part evs)::rI::Zad 5 1 (.slice BA (p.fr j).body.length b1) (p.fr j).body.length (bs (p.fr j).body)::G)):
  CA 162 #[.pointer (some ⟨a.kb,0,none⟩),frV (p.fr j) BA b1] w1 fun e w'=>e=.returned (.tuple #[])/\∃ord out iw ow un began part evs G,Rst p a R (j+1) ord out iw ow un began part evs G/\
   Sep w' (Zaa a.kb 200 (Zaf a.C a.S a.M ord inn out iw ow un began part evs)::rI::G):=by
 obtain⟨k,ps,c,v,pt,E,ec,TI,ti,rfl,rfl,rfl,rfl,rfl,rfl,rfl,rfl,hpe,hm,hi,hkN,rfl⟩:=hR
 have hf:p.fr j=hdF (sid n) (p.bk n) (Zh1 p.rs n) (hdM (p.bk n)) 1:=by show Pos.frm p.rs p.bk (p.pos j)=_;rw[hj];rfl
 have hnx:p.pos (j+1)=Zoy p.rs n:=by show Pos.next p.rs p.bk (p.pos j)=_;rw[hj];rfl
 rw[hj]at hi hm
 obtain⟨i1,i2,i5,P,A0,c0,i4,rfl⟩:=hi
 have hN:=hp.N
 have hb1:=hp.b1 n
 have hle:=Zk2 p.rs ps k
 rw[hf]at h⊢
 rw[i4,i5,i1]at h
 have e0:frV (hdF (sid n) (p.bk n) (Zh1 p.rs n) (hdM (p.bk n)) 1) BA b1=.agg #[.int .i64 2,.int .i64 4,.int .i64 (sid n),.slice BA (pcB (p.bk n) 1).length b1]:=by
  rw[Zso hbig hb1]
  rfl
 have e3:pcB (p.bk n) 0++pcB (p.bk n) 1=p.bk n:=by
  unfold pcB
  rw[Nat.mul_zero,List.drop_zero,Nat.mul_one,List.take_of_length_le (i:=1024) (l:=List.drop 1024 (p.bk n)) (by rw[List.length_drop];omega),List.take_append_drop]
 have l0:(pcB (p.bk n) 0).length<=1024:=by rw[Zek];omega
 have l1:0 < (pcB (p.bk n) 1).length:=by rw[Zek];omega
 have l2:(pcB (p.bk n) 1).length<=1024:=by rw[Zek];omega
 rw[e0]
 have q1:=hpe.kc
 have q2:=hpe.ks
 have q3:=hpe.last
 rw[i1]at q1 q2 q3
 refine(vx_more (by omega) (Zh1 p.rs n) l1 l2 l0 (by omega) (by rw[q3];exact Zp8 n) (q1.none_ (Nat.le_refl _)) (q2.none_ (Nat.le_refl _)) q2.nd (by have:=q2.len;omega) hpe.int (by rw[e3];exact hp.heard n hnN) h).mono ?_
 rintro e w' ⟨rfl,h2⟩
 exact⟨rfl,Zqb hpe hm i1 i2 i5 hnN hnx h2⟩
theorem perm_old (P A B S R:List Zae):(P++(A++((B++S)++R))).Perm (P++(S++(A++(B++R)))):=(Zn5 P A B S R).symm
theorem hear_D {p:SP}(hp:SPok p){a:GF}{R:List Zae}{j n:Nat}(hj:p.pos j=.D n)(hnN:n < p.N){ord out part evs inn:Value}{iw ow un:Int}{began:Bool}{G:List Zae}(hR:Rst p a R j ord out iw ow un began part evs G){w1:World}{rI:Zae}{BA:Option Addr}{b1:Nat}
  (h:Sep w1 (Zaa a.kb 200 (Zaf a.C a.S a.M ord inn out iw ow un began part evs)::rI::Zad 5 1 (.slice BA (p.fr j).body.length b1) (p.fr j).body.length (bs (p.fr j).body)::G)):
  CA 162 #[.pointer (some ⟨a.kb,0,none⟩),frV (p.fr j) BA b1] w1 fun e w'=>e=.returned (.tuple #[])/\∃ord out iw ow un began part evs G,Rst p a R (j+1) ord out iw ow un began part evs G/\
   Sep w' (Zaa a.kb 200 (Zaf a.C a.S a.M ord inn out iw ow un began part evs)::rI::G):=by
 obtain⟨k,ps0,c,v,pt,E,ec,TI,ti,rfl,rfl,rfl,rfl,rfl,rfl,rfl,rfl,hpe,hm,hi,hkN,rfl⟩:=hR
 have hf:p.fr j=⟨0,1,sid n,(p.rs n).b⟩:=by show Pos.frm p.rs p.bk (p.pos j)=_;rw[hj];rfl
 have hnx:p.pos (j+1)=.H (n+1):=by show Pos.next p.rs p.bk (p.pos j)=_;rw[hj];rfl
 rw[hj]at hi hm
 obtain⟨ps,s,rfl,i1,i2,i3,rfl,i4,i5⟩:=hi
 have hN:=hp.N
 have hrb:=(hp.rq n hnN).b
 have hle:=Zk2 p.rs (ps++[s]) k
 have e5:k+(ps++[s]).length=n+1:=by rw[List.length_append,List.length_singleton];omega
 obtain⟨hb1,u1,u2⟩:=hpe.iw
 have u3:=hpe.un
 have u4:=Zlr p.rs (show n+1<=p.N by omega)
 have u5:=Zy8 p.rs ps k
 have hsu:s.un (p.rs n)=0:=by cases s <;>(first | rfl | (simp[Stg.whole]at i3))
 have u6:pdU p.rs k (ps++[s])=pdU p.rs k ps:=by rw[Zid,i1,hsu];rfl
 have u7:Zha p.rs (n+1)=Zha p.rs n+(p.rs n).b.length:=rfl
 rw[i1]at u5
 have hsm:=hp.sum
 obtain⟨a1,a2,a3,a4⟩:=hpe.st ps.length s (by simp)
 rw[i1]at a1 a2 a3 a4
 have hst:s.st=1:=by cases s <;>(first | rfl | (simp[Stg.whole]at i3))
 rw[hst]at a2
 have hlast:sid n<=c.last:=by rw[hpe.last,e5];exact Int.le_refl _
 have e1:pdL p.rs k (ps++[s])=pdL p.rs k ps++s.at_ (p.rs n):=by rw[Zj3,i1]
 rw[hf]at h⊢
 rw[i4,i5,u1,u3,e5,e1]at h
 have hP:=h.perm (perm_old [_,_,_,_,_,_,_,_,_] [_,_,_,_,_,_,_,_,_,_,_,_,_,_] (pdL p.rs k ps) (s.at_ (p.rs n)) R)
 have hends:∀(s':Stg) (E':Option Addr) (ec':Nat) (sl2:List (Int×Value)) (w':World),sl2=Ze3 v.sl (sid n) (.int .i64 2)->s'.X=s.X->s'.new=s.new->s'.call=s.call->s'.st=2->s'.un (p.rs n)=(p.rs n).b.length->s'.body=s.body->s'.whole=true->s'.ev n (p.rs n)=s.ev n (p.rs n)++[evC n BA (p.rs n).b.length b1]->
   Sep w' (Zaa a.kb 200 (Zaf a.C a.S a.M (.slice v.OA 0 v.oc) inn (.slice v.A v.n v.c) ((2000-hb1-(p.rs n).b.length:Nat):Int) (v.ow:Int) ((pdU p.rs k (ps++[s])+(p.rs n).b.length:Nat):Int) true (.pointer none) (.slice E' ((pdE p.rs k (ps++[s])).length+1) ec'))::rI::
    Zad 215 6 (.slice E' ((pdE p.rs k (ps++[s])).length+1) ec') ((pdE p.rs k (ps++[s])).length+1) (Zre (pdE p.rs k (ps++[s]))++(evV 2 (sid n) 0 (.slice none 0 0) (.slice BA (p.rs n).b.length b1) true).toList)::Zan Zat a.M c.cl::Zaa a.S 254 (Zbf a.MS c.last)::Zan Zat a.MS sl2::Zaa a.C 93 (Zai a.gg a.hh)::Zbw a.hh TI ti (p.ty (n+1)) 4096::(s'.at_ (p.rs n)++rL a v (pdL p.rs k ps++R)))->
   ∃ord out iw ow un began part evs G,Rst p a R (j+1) ord out iw ow un began part evs G/\Sep w' (Zaa a.kb 200 (Zaf a.C a.S a.M ord inn out iw ow un began part evs)::rI::G):=by
  intro s' E' ec' sl2 w' hsl hX hnew hcall hst' hun' hbo hwh hev h1
  have e2:pdE p.rs k (ps++[s'])=pdE p.rs k (ps++[s])++[evC n BA (p.rs n).b.length b1]:=by rw[Zj4,Zj4,i1,hev,List.append_assoc]
  have e3:Zre (pdE p.rs k (ps++[s']))=Zre (pdE p.rs k (ps++[s]))++(evV 2 (sid n) 0 (.slice none 0 0) (.slice BA (p.rs n).b.length b1) true).toList:=by rw[e2,Zqm];rfl
  have e4:(pdE p.rs k (ps++[s'])).length=(pdE p.rs k (ps++[s])).length+1:=by rw[e2];simp
  have e6:k+(ps++[s']).length=n+1:=by rw[List.length_append,List.length_singleton];omega
  have e7:pdL p.rs k (ps++[s'])=pdL p.rs k ps++s'.at_ (p.rs n):=by rw[Zj3,i1]
  rw[<-e3,<-e4]at h1
  refine⟨_,_,_,_,_,_,_,_,_,⟨k,ps++[s'],⟨c.inn,.pointer none,c.evs,((2000-hb1-(p.rs n).b.length:Nat):Int),((pdU p.rs k (ps++[s])+(p.rs n).b.length:Nat):Int),c.last,true,c.cl⟩,⟨v.TA,v.OA,v.A,v.LA,v.tc,v.oc,v.n,v.c,v.nl,v.lc,v.ow,v.tx,v.xs,v.lx,sl2,v.gl,v.jo,v.se,v.ll,v.bl,v.jl,v.Js⟩,[],E',ec',TI,ti,rfl,rfl,rfl,rfl,rfl,rfl,rfl,rfl,?_,?_,?_,?_,rfl⟩,?_⟩
  ·refine hpe.data i1 hX hnew hcall hst' hsu hun' hbo rfl rfl (fun hb q1 q2=> ?_) (by omega) (fun u q=> ?_) hsl rfl
   ·have q3:((2000-hb:Nat):Int)=((2000-hb1:Nat):Int):=q1.symm.trans u1
    show((2000-hb1-(p.rs n).b.length:Nat):Int)=_
    omega
   ·have q3:(u:Int)=((pdU p.rs k (ps++[s]):Nat):Int):=q.symm.trans u3
    show((pdU p.rs k (ps++[s])+(p.rs n).b.length:Nat):Int)=_
    omega
  ·rw[hnx]
   exact⟨hm.tx,hm.xs,hm.n,hm.ow,hm.nl,hm.lim,hm.ll,hm.jl,hm.jo⟩
  ·rw[hnx]
   refine⟨e6,fun x hx=> ?_,rfl,rfl,rfl⟩
   rcases List.mem_append.1 hx with h2 | h2
   ·exact i2 x h2
   ·rw[List.mem_singleton.1 h2]
    exact hwh
  ·rw[e6]
   exact hnN
  ·rw[e7,e6]
   exact h1.perm (Zn5 [_,_,_,_,_,_,_,_] [_,_,_,_,_,_,_,_,_,_,_,_,_,_] (pdL p.rs k ps) (s'.at_ (p.rs n)) R)
 cases s with
 | A X FA fc=>
  have h2:=Sep.ordN hP 11 [0,1,2,3,4,5,6,9,7,8,10] rfl (by decide)
  simp only[cL,Stg.at_,Zbo,Zam,Zbd,erS,erZ,List.cons_append,List.nil_append,List.drop_succ_cons,List.drop_zero]at h2
  refine(Zxp (k:=n) (by omega) hrb (by omega) (by omega) (by omega) (by omega) hlast a1 a2 hpe.ks.nd h2).mono ?_
  rintro e w' ⟨rfl,E',ec',h3⟩
  have h4:=Sep.ordN h3 11 [0,1,2,3,4,5,8,9,6,10,7] rfl (by decide)
  simp only[Zbo,Zbd,Zam,erS,erZ]at h4
  exact⟨rfl,hends (.AC X FA fc BA b1) E' ec' _ w' rfl rfl rfl rfl rfl rfl rfl rfl rfl h4⟩
 | W X Y FA fc=>
  have h2:=Sep.ordN hP 12 [0,1,2,3,4,5,6,9,7,8,10,11] rfl (by decide)
  simp only[cL,Stg.at_,Zbo,Zam,Zbd,erS,erZ,List.cons_append,List.nil_append,List.drop_succ_cons,List.drop_zero]at h2
  refine(Zxp (k:=n) (by omega) hrb (by omega) (by omega) (by omega) (by omega) hlast a1 a2 hpe.ks.nd h2).mono ?_
  rintro e w' ⟨rfl,E',ec',h3⟩
  have h4:=Sep.ordN h3 12 [0,1,2,3,4,5,8,9,6,10,11,7] rfl (by decide)
  simp only[Zbo,Zbd,Zam,erS,erZ]at h4
  exact⟨rfl,hends (.C X Y FA fc BA b1) E' ec' _ w' rfl rfl rfl rfl rfl rfl rfl rfl rfl h4⟩
 | AE X FA fc=>cases i3
 | AC X FA fc BA bc=>cases i3
 | C X Y FA fc BA bc=>cases i3
def Bd (p:SP)(a:GF)(R:List Zae)(j:Nat)(z:List UInt8)(w:World):Prop:=
 ∃k ps c v pt TI ti A1 c1 evs,Zh2 p.rs k ps c v/\Dm k v (p.ds (p.pos j) k)/\Ziw p (p.pos j) k ps c v pt/\k+ps.length<=p.N/\pdE p.rs k ps=[]/\
  Sep w (Zaa a.kb 200 (Zaf a.C a.S a.M (.slice v.OA 0 v.oc) (.slice A1 z.length c1) (.slice v.A v.n v.c) c.iw (v.ow:Int) c.un c.bg c.part evs)::Zad 5 1 (.slice A1 z.length c1) z.length (bs z)::
   Zan Zat a.M c.cl::Zaa a.S 254 (Zbf a.MS c.last)::Zan Zat a.MS v.sl::Zaa a.C 93 (Zai a.gg a.hh)::Zbw a.hh TI ti (p.ty (k+ps.length)) 4096::(pt++rL a v (pdL p.rs k ps++R)))
theorem Zzd {ps:List Stg}(h:∀s∈ps,s.whole=true):opn ps=false:=by
 unfold opn
 rw[List.any_eq_false]
 intro s hs
 rw[h s hs]
 decide
theorem opn_end {ps:List Stg}{s:Stg}(h:s.whole=false):opn (ps++[s])=true:=by
 unfold opn
 rw[List.any_append]
 simp[h]
theorem Zze {ps:List Stg}(h:opn ps=false):∀s∈ps,s.whole=true:=by
 intro s hs
 unfold opn at h
 rw[List.any_eq_false]at h
 have:=h s hs
 simpa using this
theorem opn_last {rs:Nat->Rq}{k:Nat}{ps:List Stg}{c:GC}{v:GV}(hp:Zh2 rs k ps c v)(h:opn ps=true):∃ps' s,ps=ps'++[s]/\(∀s∈ps',s.whole=true)/\s.whole=false:=by
 have hne:ps≠[]:=fun e=>by rw[e]at h;cases h
 obtain⟨ps',s,rfl⟩:∃ps' s,ps=ps'++[s]:=⟨ps.dropLast,ps.getLast hne,(List.dropLast_concat_getLast hne).symm⟩
 have hw:∀x∈ps',x.whole=true:=by
  intro x hx
  obtain⟨t,ht⟩:=List.mem_iff_getElem?.1 hx
  have htl:=(List.getElem?_eq_some_iff.1 ht).1
  obtain⟨y,hy⟩:∃y,(ps'++[s])[t+1]? =some y:=⟨_,List.getElem?_eq_getElem (by rw[List.length_append,List.length_singleton];omega)⟩
  exact(hp.ord t y hy).2 x (by rw[List.getElem?_append_left htl];exact ht)
 refine⟨ps',s,rfl,hw,?_⟩
 cases hs:s.whole
 ·rfl
 ·have:=Zzd (ps:=ps'++[s]) (fun x hx=>by
   rcases List.mem_append.1 hx with h1 | h1
   ·exact hw x h1
   ·rw[List.mem_singleton.1 h1];exact hs)
  rw[this]at h
  cases h
theorem Zzk {rs:Nat->Rq}{k:Nat}{ps:List Stg}(he:pdE rs k ps=[])(h:∀s∈ps,s.whole=true):ps=[]:=by
 cases ps with
 | nil=>rfl
 | cons s ps=>
  have h1:=h s List.mem_cons_self
  have h2:s.ev k (rs k)++pdE rs (k+1) ps=[]:=he
  have h3:=(List.append_eq_nil_iff.1 h2).1
  cases s <;> first | (cases h1;done) | (cases h3;done)
structure Keep2 (q:Pos)(k:Nat)(ps:List Stg)(nb:Nat)(ob:Bool)(pa:Value)(bg:Bool)(c:GC)(v:GV):Prop where
 nb:k+ps.length=nb
 ob:opn ps=ob
 pa:c.part=pa
 bg:c.bg=bg
 S:q=.S->k=0/\ps=[]/\v.OA=none/\v.oc=0
theorem Ziw.keep {p:SP}{q:Pos}{k:Nat}{ps:List Stg}{c:GC}{v:GV}{pt:List Zae}(h:Ziw p q k ps c v pt):Keep2 q k ps (k+ps.length) (opn ps) c.part c.bg c v:=by
 refine⟨rfl,rfl,rfl,rfl,fun e=> ?_⟩
 subst e
 obtain⟨h1,h2,-,-,-,h6,h7⟩:=h
 exact⟨h1,h2,h6,h7⟩
theorem Ziw.turn {p:SP}{q:Pos}{k k':Nat}{ps ps':List Stg}{c c':GC}{v v':GV}{pt:List Zae}(h:Ziw p q k ps c v pt)(hp:Zh2 p.rs k' ps' c' v')(hk:Keep2 q k' ps' (k+ps.length) (opn ps) c.part c.bg c' v'):Ziw p q k' ps' c' v' pt:=by
 obtain⟨e1,e2,e3,e4,e5⟩:=hk
 cases q with
 | S=>
  obtain⟨h1,h2,h3,h4,h5,-,-⟩:=h
  obtain⟨q1,q2,q3,q4⟩:=e5 rfl
  exact⟨q1,q2,h3,e3.trans h4,e4.trans h5,q3,q4⟩
 | H n=>
  obtain⟨h1,h2,h3,h4,h5⟩:=h
  exact⟨e1.trans h1,Zze (e2.trans (Zzd h2)),h3,e3.trans h4,e4.trans h5⟩
 | M n=>
  obtain⟨h1,h2,h3,P,A0,c0,h4,h5⟩:=h
  exact⟨e1.trans h1,Zze (e2.trans (Zzd h2)),e4.trans h3,P,A0,c0,e3.trans h4,h5⟩
 | D n=>
  obtain⟨ps1,s,rfl,h1,h2,h3,h4,h5,h6⟩:=h
  obtain⟨ps2,s2,rfl,g1,g2⟩:=opn_last hp (e2.trans (opn_end h3))
  refine⟨ps2,s2,rfl,?_,g1,g2,h4,e3.trans h5,e4.trans h6⟩
  rw[List.length_append,List.length_append,List.length_singleton]at e1
  simp only[List.length_singleton]at e1
  omega
def Gp (p:SP)(a:GF)(R1:List Zae)(q:Pos)(nb:Nat)(ob:Bool)(pa:Value)(bg:Bool)(inn:Value)(l:List Ev)(E:Option Addr)(ec t:Nat)(w:World):Prop:=
 ∃k ps c v,Zh2 p.rs k ps c v/\Dm k v (p.ds q k)/\Keep2 q k ps nb ob pa bg c v/\c.inn=inn/\pdE p.rs k ps=l.drop t/\Sep w (gL a c v (pdL p.rs k ps++(Zad 215 6 (.slice E l.length ec) l.length (Zre l)::R1)))
theorem gp_step {p:SP}(hp:SPok p){a:GF}{R1:List Zae}{q:Pos}{nb io:Nat}{ob:Bool}{pa inn:Value}{bg:Bool}{l:List Ev}{E:Option Addr}{ec t:Nat}{w w0:World}(hP:Pow w0)(hio:R1[io]? =some (Zel w0))(hnb:nb<=p.N)(h:Gp p a R1 q nb ob pa bg inn l E ec t w)(ht:t < l.length):
  CA 112 #[.pointer (some ⟨a.g,0,none⟩),.agg l[t].v] (w.alloc (.cells l[t].v 215)) fun e w'=>e=.returned (.tuple #[])/\Gp p a R1 q nb ob pa bg inn l E ec (t+1) w':=by
 obtain⟨k,ps,c,v,h1,h2,⟨e1,e2,e3,e4,e5⟩,h3,h4,h5⟩:=h
 rw[List.drop_eq_getElem_cons ht]at h4
 have hq:q≠ .S:=fun e=>by
  obtain⟨-,q2,-⟩:=e5 e
  rw[q2]at h4
  cases h4
 have hds:∀k,p.ds q k=dsR dS1 p.rs k:=fun k=>by cases q <;> first | exact absurd rfl hq | rfl
 rw[hds]at h2
 have hd0:DOk 0 dS1:=⟨by decide,rfl,by decide⟩
 refine(ev_step (io:=io+1) hP hio hp.rq hp.N (by omega) hp.sum hd0 h1 h2 h4 (h5.alloc _)).mono ?_
 rintro ex w' ⟨rfl,k',ps',c',v',g1,g2,g3,g4,g5,g6,g7⟩
 exact⟨rfl,k',ps',c',v',g1,by rw[hds];exact g2,⟨g4.trans e1,g5.trans e2,g6.part.trans e3,g6.bg.trans e4,fun e=>absurd e hq⟩,g6.inn.trans h3,g3,g7⟩
theorem posA_M {rs:Nat->Rq}{bk:Nat->List UInt8}{j n:Nat}(h:Zgg rs bk j=.M n):1024 < (bk n).length:=by
 cases j with
 | zero=>cases h
 | succ j=>
  have h1:Pos.next rs bk (Zgg rs bk j)=.M n:=h
  cases hq:Zgg rs bk j with
  | S=>rw[hq]at h1;cases h1
  | H k=>
   rw[hq]at h1
   unfold Pos.next Zoy at h1
   simp only at h1
   split at h1
   ·rename_i h2;cases h1;exact h2
   ·split at h1 <;> cases h1
  | M k=>
   rw[hq]at h1
   unfold Pos.next Zoy at h1
   simp only at h1
   split at h1 <;> cases h1
  | D k=>rw[hq]at h1;cases h1
theorem hear_any {p:SP}(hp:SPok p){a:GF}{R:List Zae}{j:Nat}(hj:j < Zdi p.rs p.bk p.N){ord out part evs inn:Value}{iw ow un:Int}{began:Bool}{G:List Zae}(hR:Rst p a R j ord out iw ow un began part evs G){w1:World}{rI:Zae}{BA:Option Addr}{b1:Nat}
  (h:Sep w1 (Zaa a.kb 200 (Zaf a.C a.S a.M ord inn out iw ow un began part evs)::rI::Zad 5 1 (.slice BA (p.fr j).body.length b1) (p.fr j).body.length (bs (p.fr j).body)::G)):
  CA 162 #[.pointer (some ⟨a.kb,0,none⟩),frV (p.fr j) BA b1] w1 fun e w'=>e=.returned (.tuple #[])/\∃ord out iw ow un began part evs G,Rst p a R (j+1) ord out iw ow un began part evs G/\
   Sep w' (Zaa a.kb 200 (Zaf a.C a.S a.M ord inn out iw ow un began part evs)::rI::G):=by
 have hlt:=Zr7 p.N j hj
 cases hq:p.pos j with
 | S=>exact hear_S hp hq hR h
 | H n=>exact hear_H hp hq (by rw[show Zgg p.rs p.bk j=.H n from hq]at hlt;exact hlt) hR h
 | M n=>exact hear_M hp hq (by rw[show Zgg p.rs p.bk j=.M n from hq]at hlt;exact hlt) (posA_M (show Zgg p.rs p.bk j=.M n from hq)) hR h
 | D n=>exact hear_D hp hq (by rw[show Zgg p.rs p.bk j=.D n from hq]at hlt;exact hlt) hR h
theorem frm_part {f:Frm}(h:Zeq f=0){z:List UInt8}(hz:z <+:Zbh f)(hl:z.length < (Zbh f).length):Zdy z=(Zhh,0,8):=by
 obtain⟨y,hy⟩:=hz
 have h1:z=(Zbh f).take z.length:=by rw[<-hy,List.take_left]
 rw[h1]
 exact frm_cut h _ hl
theorem Zy7 (P A B S R:List Zae):(P++(S++(A++(B++R)))).Perm (P++(A++(B++(S++R)))):=List.Perm.append_left P (Zk1 A B S R).symm
theorem Zmx (G E B X:List Zae):(G++(E++(B++X))).Perm (G++(B++(E++X))):=by
 refine List.Perm.append_left G ?_
 rw[<-List.append_assoc,<-List.append_assoc]
 exact List.perm_append_comm.append_right X
theorem to_gate {w:World}{a:GF}{c:GC}{v:GV}{E A1 TI:Option Addr}{ec c1 ti n1:Nat}{l:List Ev}{xs:List UInt8}{ty:List Fld}{pt B R:List Zae}{inn evs:Value}(hi:inn=.slice A1 n1 c1)
  (h:Sep w (Zaa a.kb 200 (Zaf a.C a.S a.M (.slice v.OA 0 v.oc) inn (.slice v.A v.n v.c) c.iw (v.ow:Int) c.un c.bg c.part evs)::Zad 5 1 (.slice A1 n1 c1) n1 (bs xs)::cL a c v E ec l TI ti ty (pt++rL a v (B++R)))):
  Sep w (gL a ⟨inn,c.part,evs,c.iw,c.un,c.last,c.bg,c.cl⟩ v (B++(Zad 215 6 (.slice E l.length ec) l.length (Zre l)::Zad 5 1 (.slice A1 n1 c1) n1 (bs xs)::Zbw a.hh TI ti ty 4096::(pt++R)))):=by
 have h1:=h.perm (Zy7 [_,_,_,_,_,_,_,_] [_,_,_,_,_,_,_,_,_,_,_,_,_,_] B pt R)
 have h2:=Sep.ordN h1 22 [8,6,9,0,10,11,3,4,5,12,13,14,15,16,17,18,19,20,21,2,1,7] rfl (by decide)
 simp only[List.cons_append,List.nil_append,Zbo,Zam,Zbd,List.drop_succ_cons,List.drop_zero]at h2
 exact h2.perm (Zmx [_,_,_,_,_,_,_,_,_,_,_,_,_,_,_,_,_,_,_] [_,_,_] B (pt++R))
theorem to_conn {w:World}{a:GF}{c:GC}{v:GV}{A1 TI:Option Addr}{c1 ti n1:Nat}{ev:Zae}{xs:List UInt8}{ty:List Fld}{pt B R:List Zae}(hi:c.inn=.slice A1 n1 c1)
  (h:Sep w (gL a c v (B++(ev::Zad 5 1 (.slice A1 n1 c1) n1 (bs xs)::Zbw a.hh TI ti ty 4096::(pt++R))))):
  Sep w (Zaa a.kb 200 (Zaf a.C a.S a.M (.slice v.OA 0 v.oc) (.slice A1 n1 c1) (.slice v.A v.n v.c) c.iw (v.ow:Int) c.un c.bg c.part c.evs)::Zad 5 1 (.slice A1 n1 c1) n1 (bs xs)::
   Zan Zat a.M c.cl::Zaa a.S 254 (Zbf a.MS c.last)::Zan Zat a.MS v.sl::Zaa a.C 93 (Zai a.gg a.hh)::Zbw a.hh TI ti ty 4096::(pt++rL a v (B++R))):=by
 have h1:=h.perm (Zmx [_,_,_,_,_,_,_,_,_,_,_,_,_,_,_,_,_,_,_] [ev,Zad 5 1 (.slice A1 n1 c1) n1 (bs xs),Zbw a.hh TI ti ty 4096] B (pt++R)).symm
 have h2:=Sep.ordN h1 22 [3,20,6,7,8,1,21,0,2,4,5,9,10,11,12,13,14,15,16,17,18] rfl (by decide)
 simp only[List.cons_append,List.nil_append,Zbo,Zam,Zbd,List.drop_succ_cons,List.drop_zero]at h2
 rw[hi]at h2
 exact h2.perm (Zy7 [_,_,_,_,_,_,_] [_,_,_,_,_,_,_,_,_,_,_,_,_,_] B pt R).symm
def Gq (p:SP)(a:GF)(R:List Zae)(j:Nat)(z:List UInt8)(l:List Ev)(E:Option Addr)(ec t:Nat)(w:World):Prop:=
 ∃k1 ps1 c1 v1 pt1 TI ti A' c',Ziw p (p.pos j) k1 ps1 c1 v1 pt1/\k1+ps1.length<=p.N/\Gp p a (Zad 5 1 (.slice A' z.length c') z.length (bs z)::Zbw a.hh TI ti (p.ty (k1+ps1.length)) 4096::(pt1++R)) (p.pos j) (k1+ps1.length) (opn ps1) c1.part c1.bg (.slice A' z.length c') l E ec t w
theorem Z0a {p:SP}(hp:SPok p){a:GF}{R:List Zae}{j io k bc:Nat}{B:Option Addr}{z ys:List UInt8}{w w0:World}(hP:Pow w0)(hio:R[io]? =some (Zel w0))(hjt:j<=Zdi p.rs p.bk p.N)(hpre:z++ys <+:Zfk (fun i=>p.fr (j+i)) (Zdi p.rs p.bk p.N-j))(hk:k=ys.length)(hlen:(z++ys).length<=30000)(hrd:∀w',Sep w' R->Zab w' w'.heap.size 1 B k (bs ys))(h:Bd p a R j z w):
  CA 59 #[.pointer (some ⟨a.g,0,none⟩),.slice B k bc] w fun e w'=>e=.returned .nilIface/\∃m z',j+m<=Zdi p.rs p.bk p.N/\z++ys=Zfk (fun i=>p.fr (j+i)) m++z'/\(j+m < Zdi p.rs p.bk p.N->z' <+:Zbh (p.fr (j+m))/\z'.length < (Zbh (p.fr (j+m))).length)/\(j+m=Zdi p.rs p.bk p.N->z'=[])/\Bd p a R (j+m) z' w':=by
 have hok:∀i,i < Zdi p.rs p.bk p.N->Zeq (p.fr i)=0:=fun i hi=>frA_ok hp.N (fun i hi=>(hp.rq i hi).b) i hi
 obtain⟨m,z',hm,hcat,hz1,hz2⟩:=Zm5 (Zdi p.rs p.bk p.N-j) (fun i=>p.fr (j+i)) (z++ys) (fun i hi=>hok _ (by omega)) hpre
 obtain⟨k0,ps,c,v,pt,TI,ti,A1,c1,evs,h1,h2,h3,h4,h5,h6⟩:=h
 obtain⟨rsB,hrB⟩:∃q:Nat->List UInt8,q=fun i=>Zfk (fun i'=>p.fr (j+(i+i'))) (m-i)++z':=⟨_,rfl⟩
 have hr0:rsB 0=z++ys:=by
  rw[hrB,hcat]
  simp only[Nat.zero_add,Nat.sub_zero]
 have hst:∀i,i < m->rsB i=Zbh (p.fr (j+i))++rsB (i+1):=by
  intro i hi
  rw[hrB]
  simp only
  rw[show m-i=(m-(i+1))+1 by omega,Ziq,List.append_assoc,Nat.add_zero]
  congr 3
  funext i'
  rw[show i+(i'+1)=i+1+i' by omega]
 have hrl:∀i,i<=m->(rsB i).length<=30000:=by
  intro i
  induction i with
  | zero=>intro _;rw[hr0];exact hlen
  | succ i ih=>
   intro hi
   have e1:=ih (by omega)
   rw[hst i (by omega),List.length_append]at e1
   omega
 have hrm:rsB m=z':=by
  rw[hrB]
  simp only[Nat.sub_self]
  simp[Zfk]
 have hend:Zdy (rsB m)=(Zhh,0,8):=by
  rw[hrm]
  by_cases hlt:m < Zdi p.rs p.bk p.N-j
  ·obtain⟨q1,q2⟩:=hz1 hlt
   exact frm_part (hok _ (by omega)) q1 q2
  ·rw[hz2 (by omega)]
   exact Zg6 (by simp)
 have hsuf:∀w',Sep w' (Zad 215 6 (.slice none 0 0) 0 []::Zan Zat a.M c.cl::Zaa a.S 254 (Zbf a.MS c.last)::Zan Zat a.MS v.sl::Zaa a.C 93 (Zai a.gg a.hh)::Zbw a.hh TI ti (p.ty (k0+ps.length)) 4096::(pt++rL a v (pdL p.rs k0 ps++R)))->Sep w' R:=by
  intro w' hs
  refine hs.sub (List.IsSuffix.sublist ?_)
  have s1:R <:+pdL p.rs k0 ps++R:=List.suffix_append _ _
  have s2:(pdL p.rs k0 ps++R) <:+rL a v (pdL p.rs k0 ps++R):=⟨[_,_,_,_,_,_,_,_,_,_,_,_,_,_],rfl⟩
  have s3:rL a v (pdL p.rs k0 ps++R) <:+pt++rL a v (pdL p.rs k0 ps++R):=List.suffix_append _ _
  exact((s1.trans s2).trans s3).trans ⟨[_,_,_,_,_,_],rfl⟩
 have hg:w.cell? ⟨a.g,0,none⟩=some (.pointer (some ⟨a.kb,0,none⟩)):=by
  have hmem:Zaa a.g 120 (Za7 a.kb (.slice (some ⟨a.rg,0,none⟩) 2 a.rc) a.Li a.St a.CM a.JM v.jl (.slice v.LA v.nl v.lc))∈pt++rL a v (pdL p.rs k0 ps++R):=List.mem_append_right _ List.mem_cons_self
  have hb:Blk w a.g 120 (Za7 a.kb (.slice (some ⟨a.rg,0,none⟩) 2 a.rc) a.Li a.St a.CM a.JM v.jl (.slice v.LA v.nl v.lc)):=(h6.tail.tail.tail.tail.tail.tail.tail.all _ hmem).1
  exact hb.cell 0
 have ho:w.cell? ⟨a.kb,11,none⟩=some (.bool false):=(h6.at_ (i:=0) rfl).1 11
 have h7:=Sep.ordN (h6.nilRow 215 6) 3 [1,2,0] rfl (by decide)
 simp only[Zbo,Zbd,Zam,erS,erZ]at h7
 refine(vg_feed (P:=Gq p a R (j+m) z') hg ho ?_ ?_ ?_).mono ?_
 ·refine(vf_feed m (fun i=>p.fr (j+i)) rsB (fun i=>(Zbh (p.fr (j+i))).length) rfl hk (by rw[List.length_append]at hlen;omega) (fun w' hs=>hrd w' (hsuf w' hs)) hr0 (fun i hi=> ?_) (fun i hi=>by have:=hrl i hi;omega) hend (fun i=>Rst p a R (j+i)) ⟨k0,ps,c,v,pt,none,0,TI,ti,rfl,rfl,rfl,rfl,rfl,rfl,rfl,by rw[h5];rfl,h1,h2,h3,h4,by rw[h5];rfl⟩ (fun i hi ord out iw ow un began part evs G hR w1 A1 BA c1 b1 hs=>hear_any hp (by omega) hR hs) h7).mono ?_
  ·rw[hst i hi]
   refine⟨Z0e (hok _ (by omega)) _,List.drop_left,by rw[List.length_append];omega,?_⟩
   have:=Z0d (hok (j+i) (by omega))
   rw[List.length_append]
   omega
  ·rintro e w' ⟨ord,out,iw,ow,un,began,part,evs,G,A',c',rfl,hRst,hsep⟩
   obtain⟨k1,ps1,c2,v1,pt1,E,ec,TI1,ti1,rfl,rfl,rfl,rfl,rfl,rfl,rfl,rfl,q1,q2,q3,q4,rfl⟩:=hRst
   rw[hrm]at hsep
   have hN:=hp.N
   have hl:=Zk2 p.rs ps1 k1
   refine⟨pdE p.rs k1 ps1,E,ec,rfl,by omega,k1,ps1,c2,v1,pt1,TI1,ti1,A',c',q3,q4,k1,ps1,_,v1,?_,q2,?_,rfl,by rw[List.drop_zero],to_gate rfl hsep⟩
   ·exact⟨q1.kc,q1.ks,q1.kg,q1.int,q1.last,q1.st,q1.iw,q1.un,q1.ord⟩
   ·have q5:=q3.keep
    exact⟨q5.nb,q5.ob,q5.pa,q5.bg,q5.S⟩
 ·rintro l E ec t w1 ⟨k1,ps1,c2,v1,pt1,TI1,ti1,A',c',q3,q4,k2,ps2,c3,v2,g1,g2,g3,g4,g5,g6⟩ ht
  exact evs_row (g6.perm (Zk1 [_,_,_,_,_,_,_,_,_,_,_,_,_,_,_,_,_,_,_] (pdL p.rs k2 ps2) [_] _)) (i:=0) rfl ht
 ·rintro l E ec t w1 ⟨k1,ps1,c2,v1,pt1,TI1,ti1,A',c',q3,q4,hgp⟩ ht
  refine(gp_step hp (io:=pt1.length+io+2) hP ?_ q4 hgp ht).mono ?_
  ·show(pt1++R)[pt1.length+io]? =_
   rw[List.getElem?_append_right (by omega),Nat.add_sub_cancel_left]
   exact hio
  ·rintro e w' ⟨rfl,hgp2⟩
   exact⟨rfl,k1,ps1,c2,v1,pt1,TI1,ti1,A',c',q3,q4,hgp2⟩
 ·rintro e w' ⟨rfl,l,E,ec,k1,ps1,c2,v1,pt1,TI1,ti1,A',c',q3,q4,k2,ps2,c3,v2,g1,g2,g3,g4,g5,g6⟩
  rw[List.drop_length]at g5
  have e1:=g3.nb
  refine⟨rfl,m,z',by omega,hcat,fun hlt=>hz1 (by omega),fun he=>hz2 (by omega),k2,ps2,c3,v2,pt1,TI1,ti1,A',c',c3.evs,g1,g2,q3.turn g1 g3,by omega,g5,?_⟩
  rw[e1]
  exact to_conn g4 g6
theorem vf_loop {w:World}{G B n c sz:Nat}(St:Nat->World->Prop)(hs:1<=sz)(hs2:sz<=5000)(hn:n<=100000)(hc:n<=c)(h0:St 0 w)
  (hF:∀t m cc w,t+m<=n->1<=m->m<=sz->St t w->CA 59 #[.pointer (some ⟨G,0,none⟩),.slice (some ⟨B,t,none⟩) m cc] w fun e w'=>e=.returned .nilIface/\St (t+m) w'):
  CA 17 #[.pointer (some ⟨G,0,none⟩),.slice (some ⟨B,0,none⟩) n c,.int .i64 (sz:Int)] w fun e w'=>e=.returned (.bool true)/\St n w':=by
 have HF:=Hd hF
 have HK:=Hd (And.intro hs (And.intro hs2 (And.intro hn hc)))
 have HO:=Hd h0
 clear hF hs hs2 hn hc h0
 go_enter func17,ntmps17
 go_wp2
 go_loopg [1] n (fun mm v wr=>∃t:Nat,mm+t=n/\(∃(o cc:Nat),v=.slice (some ⟨B,o,none⟩) (n-t) cc/\n-t<=cc/\(t < n->o=t))/\Hid (St t wr))
 case atStart=>exact⟨0,rfl,⟨0,c,rfl,HK.out.2.2.2,fun _=>rfl⟩,HO⟩
 case round=>
  obtain⟨t,ht,⟨o,cc,rfl,hcc,ho⟩,HS⟩:=hrel
  by_cases hlt:t < n
  ·have hot:=ho hlt
   subst hot
   clear ho
   obtain⟨r,hr⟩:=exl (n-o)
   rw[hr]at hcc⊢
   have i1:(0:Int) < (r:Int):=by omega
   by_cases hlr:r < sz
   ·have i2:(r:Int) < (sz:Int):=by omega
    have hfr:=HF.out o r
    have HR:=Hd (HF.out o r cc wr (by omega) (by omega) (by omega) HS.out)
    have HT:=Hd (And.intro ht (And.intro hr hlt))
    clear ht hr hlt hlr hfr
    go_wp2_with fail
    refine Mo HR ?_
    rintro e w2 ⟨rfl,h2⟩
    have H2:=Hd h2
    have hq:cc=r∨r < cc:=by omega
    clear h2 HR HS
    rcases hq with rfl | hq
    ·go_wp2
     go_roundg 0
     case measure=>have:=HT.out;omega
     case rel=>exact⟨n,by omega,⟨_,_,by rw[Nat.sub_self],by omega,fun h=>absurd h (by omega)⟩,by have:=HT.out;rw[show n=o+cc by omega];exact H2⟩
    ·go_wp2
     go_roundg 0
     case measure=>have:=HT.out;omega
     case rel=>exact⟨n,by omega,⟨_,_,by rw[Nat.sub_self],by omega,fun h=>absurd h (by omega)⟩,by have:=HT.out;rw[show n=o+r by omega];exact H2⟩
   ·have i2:¬(r:Int) < (sz:Int):=by omega
    have i3:sz<=r:=by omega
    have HR:=Hd (HF.out o sz cc wr (by omega) HK.out.1 (by omega) HS.out)
    have HT:=Hd (And.intro ht (And.intro hr hlt))
    clear ht hr hlt hlr
    go_wp2_with fail
    refine Mo HR ?_
    rintro e w2 ⟨rfl,h2⟩
    have H2:=Hd h2
    have hq:cc=sz∨sz < cc:=by omega
    clear h2 HR HS
    rcases hq with rfl | hq
    ·go_wp2
     go_roundg 0
     case measure=>have:=HT.out;omega
     case rel=>exact⟨n,by omega,⟨_,_,by rw[Nat.sub_self],by omega,fun h=>absurd h (by omega)⟩,by have:=HT.out;rw[show n=o+cc by omega];exact H2⟩
    ·go_wp2
     go_roundg (n-(o+sz))
     case measure=>have:=HT.out;have:=HK.out.1;omega
     case rel=>exact⟨o+sz,by have:=HT.out;omega,⟨_,_,by rw[show r-sz=n-(o+sz)by have:=HT.out;omega],by have:=HT.out;omega,fun _=>rfl⟩,H2⟩
  ·have hn0:n-t=0:=by omega
   rw[hn0]at hcc⊢
   have htn:t=n:=by omega
   subst htn
   clear ho hlt hn0 ht
   go_wp2
   go_ret
   exact⟨rfl,HS.out⟩
theorem Z0y {w:World}{B n c t m:Nat}{X:List UInt8}{L:List Zae}{i:Nat}(h:Sep w L)(hi:L[i]? =some (Zad 5 1 (.slice (some ⟨B,0,none⟩) n c) n (bs X)))(hn:n=X.length)(htm:t+m<=n):Zab w w.heap.size 1 (some ⟨B,t,none⟩) m (bs ((X.drop t).take m)):=by
 have h0:Zab w w.heap.size 1 (some ⟨B,0,none⟩) n (bs X):=Zag h hi
 have h1:=h0.cut (k:=t) (cap:=n+1) (by omega) (by omega)
 rw[if_neg (by omega),Nat.mul_one,Zfy]at h1
 have h2:=h1.take (k:=m) (by omega)
 rw[Zov]at h2
 have e:((some (⟨B,0,none⟩:Addr)).map (·.add t))=some ⟨B,t,none⟩:=by simp[Addr.add];omega
 rw[<-e]
 exact h2
theorem Z0i {p:SP}(hp:SPok p){a:GF}{R:List Zae}{io ix B n c sz:Nat}{X:List UInt8}{w w0:World}(hP:Pow w0)(hio:R[io]? =some (Zel w0))(hX:X=Zfk p.fr (Zdi p.rs p.bk p.N))(hn:n=X.length)(hXl:X.length<=30000)(hc:n<=c)(hix:R[ix]? =some (Zad 5 1 (.slice (some ⟨B,0,none⟩) n c) n (bs X)))(hs:1<=sz)(hs2:sz<=5000)(h:Bd p a R 0 [] w):
  CA 17 #[.pointer (some ⟨a.g,0,none⟩),.slice (some ⟨B,0,none⟩) n c,.int .i64 (sz:Int)] w fun e w'=>e=.returned (.bool true)/\Bd p a R (Zdi p.rs p.bk p.N) [] w':=by
 have hok:∀i,i < Zdi p.rs p.bk p.N->Zeq (p.fr i)=0:=fun i hi=>frA_ok hp.N (fun i hi=>(hp.rq i hi).b) i hi
 have htot:0 < Zdi p.rs p.bk p.N:=by
  have:∀k,0 < Zdi p.rs p.bk k:=fun k=>by
   induction k with
   | zero=>exact Nat.one_pos
   | succ k ih=>show 0 < Zdi p.rs p.bk k+_;omega
  exact this _
 obtain⟨T,hT⟩:=exl (Zdi p.rs p.bk p.N)
 rw[hT]at hX hok htot⊢
 refine(vf_loop (fun t w=>∃j z,j<=T/\Zfk p.fr j++z=X.take t/\(j < T->z <+:Zbh (p.fr j)/\z.length < (Zbh (p.fr j)).length)/\(j=T->z=[])/\Bd p a R j z w) hs hs2 (by omega) hc ⟨0,[],Nat.zero_le _,by simp[Zfk],fun h0=>⟨List.nil_prefix,by have:=Z0d (hok 0 h0);simp;omega⟩,fun _=>rfl,h⟩ (fun t m cc w1 htm h1 h2 hSt=> ?_)).mono ?_
 ·obtain⟨j,z,hj,hcat,hz1,hz2,hbd⟩:=hSt
  have e1:X=Zfk p.fr j++Zfk (fun i=>p.fr (j+i)) (T-j):=by
   rw[hX,<-Zkb,Nat.add_sub_cancel' hj]
  have e2:X.take (t+m)=Zfk p.fr j++(z++(X.drop t).take m):=by
   rw[List.take_add,<-hcat,List.append_assoc]
  have hpre:z++(X.drop t).take m <+:Zfk (fun i=>p.fr (j+i)) (T-j):=by
   have h3:X.take (t+m) <+:X:=List.take_prefix _ _
   rw[e2]at h3
   have h4:=h3.trans (show X <+:Zfk p.fr j++Zfk (fun i=>p.fr (j+i)) (T-j)from⟨[],by rw[List.append_nil];exact e1⟩)
   rw[List.prefix_append_right_inj]at h4
   exact h4
  have hl:(z++(X.drop t).take m).length<=30000:=by
   have:=hpre.length_le
   have e3:=congrArg List.length e1
   rw[List.length_append]at e3
   omega
  refine(Z0a hp hP hio (by rw[hT];exact hj) (by rw[hT];exact hpre) (k:=m) (by rw[List.length_take,List.length_drop];omega) hl (fun w' hs'=>Z0y hs' hix hn htm) hbd).mono ?_
  rintro e w' ⟨rfl,m',z',q1,q2,q3,q4,q5⟩
  rw[hT]at q1 q3 q4
  refine⟨rfl,j+m',z',q1,?_,q3,q4,q5⟩
  rw[e2,q2,Zkb,List.append_assoc]
 ·rintro e w' ⟨rfl,j,z,hj,hcat,hz1,hz2,hbd⟩
  rw[hn,List.take_length]at hcat
  have hjT:j=T:=by
   rcases Nat.lt_or_ge j T with hlt | hge
   ·exfalso
    obtain⟨-,q2⟩:=hz1 hlt
    have e1:X=Zfk p.fr j++Zfk (fun i=>p.fr (j+i)) (T-j):=by rw[hX,<-Zkb,Nat.add_sub_cancel' hj]
    rw[e1,List.append_cancel_left_eq]at hcat
    have e2:T-j=(T-j-1)+1:=by omega
    rw[e2,Ziq]at hcat
    rw[hcat,List.length_append]at q2
    simp only[Nat.add_zero]at q2
    omega
   ·omega
  subst hjT
  rw[hz2 rfl]at hbd
  exact⟨rfl,hbd⟩
theorem Sep.weakAt {w:World}{L:List Zae}{i:Nat}{a b:Zae}(h:Sep w L)(hi:L[i]? =some a)(h1:a.holds w->b.holds w)(h2:∀k,b.own k->a.own k):Sep w (L.set i b):=
 h.upd hi (Zax.refl a.own w) (h1 (h.get hi)) (fun k hk=>h.lt hi (h2 k hk)) (fun k hk=> .inl (h2 k hk))
theorem Sep.mapNilAt {K:Type}{kv:K->Value}{w:World}{L:List Zae}{i r:Nat}(h:Sep w L)(hi:L[i]? =some (Zak r #[] 0)):Sep w (L.set i (Zan kv r [])):=
 h.weakAt hi (fun hh=>⟨#[],0,hh,rfl,by simp,by simp⟩) (fun _ hk=>hk)
theorem Sep.bktNil {w:World}{F:List Zae}(h:Sep w F):Sep w (Zo5 []::F):=
 ⟨fun c hc=>by
  rcases List.mem_cons.1 hc with rfl | hc
  ·exact⟨(by intro a ha;cases ha),(by rintro k ⟨a,ha,-⟩;cases ha)⟩
  ·exact h.all c hc,List.pairwise_cons.2 ⟨(by rintro b _ k ⟨a,ha,-⟩;cases ha),h.apart⟩⟩
theorem Zwr {p:SP}(hty:p.ty 0=[]){w:World}{F:List Zae}{G K rc Li LM LM' St CM JM S MS M C gg hh cc:Nat}{RA A:Option Addr}
  (h:Sep w (Zaa G 120 (Za7 K (.slice RA 2 rc) Li St CM JM 0 (.slice none 0 0))::Zak JM #[] 0::Zak CM #[] 0::Zaa St 203 #[.slice none 0 0]::Zad 47 3 (.slice RA 2 rc) 2 Zjv::
    Zaa K 200 (Zaf C S M (.slice none 0 0) (.slice none 0 0) (.slice A 9 cc) 2000 2000 0 false (.pointer none) (.slice none 0 0))::Zad 5 1 (.slice A 9 cc) 9 (bs Zf6)::Zak M #[] 0::Zaa S 254 #[.map (some MS),.int .i64 0]::Zak MS #[] 0::Zaa C 93 (Zai gg hh)::Zbw gg none 0 [] 4096::Zbw hh none 0 [] 4096::
    Zaa Li 193 #[.int .i64 5,.int .i64 5,.map (some LM),.map (some LM')]::Zak LM' #[] 0::Zak LM #[] 0::F)):∃a:GF,a.g=G/\Bd p a F 0 [] w:=by
 obtain⟨rg,rfl,-,-⟩:=Znw h (i:=4) rfl
 have h1:=(((((h.mapNilAt (kv:=Zat) (i:=1) rfl).mapNilAt (kv:=Zat) (i:=2) rfl).mapNilAt (kv:=Zat) (i:=7) rfl).mapNilAt (kv:=Zat) (i:=9) rfl).mapNilAt (kv:=Zed) (i:=14) rfl).mapNilAt (kv:=Zed) (i:=15) rfl
 simp only[List.set_cons_succ,List.set_cons_zero]at h1
 have h2:=((((h1.nilRow 5 1).nilRow 3 1).nilRow 233 6).bktNil).manyNil
 have h3:=Sep.ordN h2 21 [10,4,12,13,14,15,17,5,16,11,3,2,7,18,19,20,1,8,9,6,0] rfl (by decide)
 simp only[Zbo,Zbd,Zam,erS,erZ]at h3
 refine⟨⟨G,K,C,S,M,MS,Li,LM,LM',St,CM,JM,gg,hh,rg,rc⟩,rfl,0,[],⟨.slice none 0 0,.pointer none,.slice none 0 0,2000,0,0,false,[]⟩,⟨none,none,A,none,0,0,9,cc,0,0,2000,[],Zf6,[],[],[],[],[],[],[],0,[]⟩,[],none,0,none,0,.slice none 0 0,?_,?_,?_,Nat.zero_le _,rfl,?_⟩
 ·refine⟨Zb7.nil _,Zb7.nil _,Zb7.nil _,(by intro q hq;cases hq),rfl,(by intro t s ht;cases ht),⟨0,rfl,rfl⟩,rfl,(by intro t s ht;cases ht)⟩
 ·exact⟨rfl,rfl,rfl,rfl,rfl,Zj0.nil,Nat.le_refl _,rfl,Zfl.nil⟩
 ·exact⟨rfl,rfl,rfl,rfl,rfl,rfl,rfl⟩
 ·rw[show(0:Nat)+([]:List Stg).length=0 from rfl,hty]
  exact h3
theorem bd_end {p:SP}{a:GF}{R:List Zae}{w:World}(h:Bd p a R (Zdi p.rs p.bk p.N) [] w):∃(v:GV) (Rt lg ord inn part evs:Value) (iw ow un:Int) (bg:Bool) (Y:List Zae),Dm p.N v (dsR dS1 p.rs p.N)/\
  Sep w (Zaa a.g 120 (Za7 a.kb Rt a.Li a.St a.CM a.JM v.jl lg)::Zaa a.kb 200 (Zaf a.C a.S a.M ord inn (.slice v.A v.n v.c) iw ow un bg part evs)::Zad 5 1 (.slice v.A v.n v.c) v.n (bs v.xs)::Zan Zat a.JM v.jo::Zff v.Js::(Y++R)):=by
 obtain⟨k,ps,c,v,pt,TI,ti,A1,c1,evs,h1,h2,h3,h4,h5,h6⟩:=h
 have hq:p.pos (Zdi p.rs p.bk p.N)=.H p.N:=Zn4 p.N
 rw[hq]at h2 h3
 obtain⟨i1,i2,rfl,i4,i5⟩:=h3
 have hps:=Zzk h5 i2
 subst hps
 have hk:k=p.N:=i1
 subst hk
 have h7:=Sep.ordN h6 21 [7,0,9,19,20,1,2,3,4,5,6,8,10,11,12,13,14,15,16,17,18] rfl (by decide)
 simp only[rL,pdL,Zbo,Zam,Zbd,erS,erZ,List.cons_append,List.nil_append,List.drop_succ_cons,List.drop_zero]at h7
 exact⟨v,_,_,_,_,_,_,_,_,_,_,[_,_,_,_,_,_,_,_,_,_,_,_,_,_,_,_],h2,h7⟩
end
end Go.Proofs.YtbgnggkgmeagkaaGreatDoor
