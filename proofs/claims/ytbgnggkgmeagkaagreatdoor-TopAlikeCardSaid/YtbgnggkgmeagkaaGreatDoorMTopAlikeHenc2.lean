/-
  A part of the proof of TopAlike: each theorem states its own conditions.
-/
import Derived.Test.YtbgnggkgmeagkaaGreatDoorMTopAlike08
set_option linter.unusedSimpArgs false
set_option linter.unusedVariables false
set_option maxRecDepth 100000
set_option maxHeartbeats 16000000
namespace Go.Proofs.YtbgnggkgmeagkaaGreatDoor
open Go.Proofs.Tryz
open Go.RowKit
variable {qo:Value×Value×Value}
attribute [local go_sem ↓] Go.wp_at_zero Go.wp_at_succ
def Zjn (p:Nat)(r:List Nat)(k:Nat):Nat:=((p::r).take k).foldl min p
theorem Zsf (p:Nat)(r:List Nat)(k:Nat)(h:k < (p::r).length):Zjn p r (k+1)=min (Zjn p r k) ((p::r)[k]):=by
 unfold Zjn
 rw[List.take_succ_eq_append_getElem h,List.foldl_append]
 rfl
theorem Zwd (p:Nat)(r:List Nat):Zjn p r (p::r).length=Zf4 p r:=by
 unfold Zjn Zf4
 rw[List.take_length]
 show r.foldl min (min p p)=_
 rw[Nat.min_self]
theorem Zyl {p:Nat}{r:List Nat}{z m:Nat}(hz:(p::r).getLast (by simp)=z)(hm:m=Zf4 p r)(h:m < z):Zdq (p::r)=[]++Zd4 (m:Nat) 5 32++Zd4 (z:Nat) 5 32:=by
 subst hm
 simp only[Zdq,hz,if_pos h,List.nil_append]
theorem saidP_no {p:Nat}{r:List Nat}{z m:Nat}(hz:(p::r).getLast (by simp)=z)(hm:m=Zf4 p r)(h:¬m < z):Zdq (p::r)=[]++Zd4 (m:Nat) 5 32:=by
 subst hm
 simp only[Zdq,hz,if_neg h,List.nil_append,List.append_nil]
theorem szs_at (ps:List Nat)(k:Nat)(h:k < ps.length):(szs ps)[k]? =some (.int .i64 ((ps[k]:Nat):Int)):=by
 simp[szs,List.getElem?_eq_getElem h]
theorem row_succ {W:World}{base:Nat}{e:TypeId}{size:Nat}{v:Value}{k:Nat}{xs:List Value}(h:W.ownsRow base e size v (k+1) xs):∃g cap,v=.slice (some ⟨g,0,none⟩) (k+1) cap:=by
 rcases h.2 with⟨_,h0⟩ | ⟨g,cap,cur,rfl,_⟩
 ·omega
 ·exact⟨_,_,rfl⟩
structure Zo1 (w wr:World)(C g:Nat)(A:Option Addr)(c:Nat)(Sv:Value)(G:Nat)(xs:List Fld)(mx:Nat)(ps:List Nat)(b:List UInt8)(qo:Value×Value×Value):Prop where
 below:Below w.heap.size w wr
 co:Znd wr C g A c Sv xs mx ps qo
 wr_:∃v,Wr wr G v b/\∀k,Ztu G v k->w.heap.size<=k
 lt:∀k,Zl1 C g A Sv k->k < w.heap.size
section
variable {w wr w1:World} {C g G mx c:Nat} {A:Option Addr} {Sv:Value} {xs:List Fld} {ps:List Nat} {b:List UInt8}
theorem Zo1.next (h:Zo1 w wr C g A c Sv G xs mx ps b qo)(hb:Below wr.heap.size wr w1):Zo1 w w1 C g A c Sv G xs mx ps b qo:=by
 obtain⟨h1,h2,⟨v,h3,h4⟩,h5⟩:=h
 exact⟨h1.trans (hb.mono h1.size),h2.below hb,⟨v,h3.keep (S:=fun _=>False) (Zax.of_below hb) (fun _ _ h=>h),h4⟩,h5⟩
theorem Zy3 (h:Zo1 w wr C g A c Sv G xs mx ps b qo)(n bits first:Int)(hl:b.length+(Zd4 n bits first).length<=140737488355328):
  CA 41 #[.pointer (some ⟨G,0,none⟩),.int .i64 n,.int .i64 bits,.int .i64 first] wr fun e w'=>e=.returned (.tuple #[])/\Zo1 w w' C g A c Sv G xs mx ps (b++Zd4 n bits first) qo/\wr.heap.size<=w'.heap.size:=by
 obtain⟨h1,h2,⟨v,h3,h4⟩,h5⟩:=h
 refine(Ztq h3 n bits first hl).mono ?_
 rintro e w' ⟨he,v',h6,h7,h8⟩
 have hb:Below w.heap.size wr w':=h7.below h1.size h4
 refine⟨he,⟨h1.trans hb,h2.keep h7 (fun k hk hs=> ?_),⟨v',h6,fun k hk=> ?_⟩,h5⟩,h7.size⟩
 ·have e1:=h5 k hk
  have e2:=h4 k hs
  omega
 ·rcases h8 k hk with h | h
  ·exact h4 k h
  ·exact Nat.le_trans h1.size h
theorem Zqo (h:Zo1 w wr C g A c Sv G xs mx ps b qo):Zep w (wr.setCell ⟨C,3,none⟩ (.slice none 0 0)) C g A Sv G xs mx b qo/\wr.cell? ⟨C,3,none⟩=some Sv/\wr.frozen? ⟨C,3,none⟩=false/\C < wr.heap.size:=by
 obtain⟨h1,h2,⟨v,h3,h4⟩,h5⟩:=h
 have hne:=h2.ne
 obtain⟨hb,ht,hr⟩:=h2
 have k3:Zax (fun k=>k=C) wr (wr.setCell ⟨C,3,none⟩ (.slice none 0 0)):=(Zax.refl (fun k=>k=C) wr).setCell (p:=⟨C,3,none⟩) (.inl rfl) _
 have hC:C < w.heap.size:=h5 C (.inl rfl)
 refine⟨⟨A,c,v,⟨?_,ht.keep k3 fun k hk he=>hne.1 (he ▸ hk),World.ownsRow_nil _ _ _ _⟩,h3.keep k3 fun k hk he=> ?_,(Zax.of_below (S:=Zl1 C g A Sv) h1).trans k3 fun i hi=> .inl (.inl hi),?_,h4,fun k hk ho=> ?_⟩,hb.cell 3,hb.frozen 3,hb.lt⟩
 ·have:=hb.set_ 3 (.slice none 0 0)
  simpa using this
 ·have e1:=h4 k hk
  omega
 ·rintro k (rfl | hk | hk)
  ·exact .inl (.inl rfl)
  ·exact .inl (.inr (.inl hk))
  ·simp[Value.ownBlock]at hk
 ·have e1:=h4 k hk
  rcases ho with rfl | ho | ho
  ·omega
  ·have:=h5 k (.inr (.inl ho))
   omega
  ·simp[Value.ownBlock]at ho
theorem Zwz (h:Zo1 w wr C g A c (.slice none 0 0) G xs mx [] b qo):Zep w wr C g A (.slice none 0 0) G xs mx b qo:=by
 obtain⟨h1,h2,⟨v,h3,h4⟩,h5⟩:=h
 refine⟨A,c,v,h2,h3,Zax.of_below h1,fun k hk=> .inl hk,h4,fun k hk ho=> ?_⟩
 have e1:=h4 k hk
 have e2:=h5 k ho
 omega
theorem pre_new (H:Znd w C g A c Sv xs mx ps qo)(hb:Below w.heap.size w wr):Zo1 w (wr.alloc (.cells #[.slice none 0 0] 97)) C g A c Sv wr.heap.size xs mx ps [] qo:=by
 have hba:Below wr.heap.size wr (wr.alloc (.cells #[.slice none 0 0] 97)):=(Below.refl _ _).alloc (Nat.le_refl _) _
 refine⟨hb.trans (hba.mono hb.size),(H.below hb).below hba,⟨.slice none 0 0,⟨Blk.new wr _ _,World.ownsRow_nil _ _ _ _⟩,?_⟩,H.lt⟩
 rintro k (rfl | hk)
 ·exact hb.size
 ·simp[Value.ownBlock]at hk
theorem Zps (h:Zo1 w wr C g A c Sv G xs mx ps b qo):wr.cell? ⟨C,3,none⟩=some Sv/\C < wr.heap.size/\(∃SA sc,Sv=.slice SA ps.length sc)/\(ps≠[]->∃q cap,Sv=.slice (some ⟨q,0,none⟩) ps.length cap/\q < wr.heap.size/\∀k (hk:k < ps.length),wr.cell? ⟨q,k,none⟩=some (.int .i64 ((ps[k]:Nat):Int))):=by
 obtain⟨h1,⟨hb,ht,hr⟩,h3,h4⟩:=h
 refine⟨hb.cell 3,hb.lt,Zas hr,fun hne=> ?_⟩
 obtain⟨n,hn⟩:∃n,ps.length=n+1:=⟨ps.length-1,by have:=List.length_pos_iff.2 hne;omega⟩
 have hr2:=hr
 rw[hn]at hr2
 obtain⟨q,cap,rfl⟩:=row_succ hr2
 refine⟨q,cap,by rw[hn],?_,fun k hk=> ?_⟩
 ·exact(hr.lt q rfl).2
 ·have hc:=hr.cells (g:=q) rfl k _ (szs_at ps k hk)
  rw[Addr.add_lit,Nat.zero_add]at hc
  exact hc
end
theorem own_capW {w:World}{B size n c:Nat}{e:TypeId}{A:Option Addr}{xs:List Value}(h:w.ownsRow B e size (.slice A n c) n xs):n<=c:=by
 rcases h.2 with⟨he,h0⟩ | ⟨g,cap,cur,he,_,_,_,hm,hl,_⟩
 ·omega
 ·cases he
  omega
theorem Zrz {S:Nat->Prop}{w w':World}{B size n:Nat}{A:Option Addr}{xs:List Value}(h:Zab w B size A n xs)(hk:Zax S w w')(hB:B<=w.heap.size)(hS:∀ad,A=some ad->0 < n->¬S ad.block):Zab w' B size A n xs:=by
 refine⟨h.1,fun h0=> ?_⟩
 obtain⟨ad,e,hb,hc⟩:=h.2 h0
 refine⟨ad,e,hb,fun j u hu=> ?_⟩
 have h1:=hc j u hu
 have h2:=hk.block ad.block (by omega) (hS ad e h0)
 have h3:(ad.add j).block=ad.block:=Zbk _ _
 rw[<-h3]at h2
 rw[<-h1]
 unfold World.cell?
 rw[h2]
def KeepF (w w':World):Prop:=∀F cs,Blk w F 41 cs->Blk w' F 41 cs
theorem Zuv {wr w':World}{G:Nat}{v:Value}{b:List UInt8}(h:Wr wr G v b)(hk:Zax (Ztu G v) wr w'):KeepF wr w':=by
 intro F cs hF
 refine hF.keep hk ?_
 rintro(rfl | hk)
 ·exact Blk.ne_ hF h.blk (by decide) rfl
 ·exact Zao h.own hF (by decide) hk
theorem Zu5 {w wr:World}{C g G mx:Nat}{A:Option Addr}{Sv:Value}{xs:List Fld}{b:List UInt8}(h:Zep w wr C g A Sv G xs mx b qo)(n bits first:Int)(hl:b.length+(Zd4 n bits first).length<=140737488355328):
  CA 41 #[.pointer (some ⟨G,0,none⟩),.int .i64 n,.int .i64 bits,.int .i64 first] wr fun e w'=>e=.returned (.tuple #[])/\Zep w w' C g A Sv G xs mx (b++Zd4 n bits first) qo/\KeepF wr w':=by
 obtain⟨A',c',v,h1,h2,h3,h4,h5,h6⟩:=h
 refine(Ztq h2 n bits first hl).mono ?_
 rintro e w' ⟨he,hw⟩
 refine⟨he,(Zqn h1 h3 h4 h5 h6 hw).1,?_⟩
 obtain⟨_,_,h8,_⟩:=hw
 exact Zuv h2 h8
theorem Zlf {w wr:World}{C g G mx:Nat}{A:Option Addr}{Sv:Value}{xs:List Fld}{b:List UInt8}(h:Zep w wr C g A Sv G xs mx b qo)(s:List UInt8)(hs:s.length<=140737488355328)(hl:b.length+(Zco s).length<=140737488355328):
  CA 43 #[.pointer (some ⟨G,0,none⟩),.string ⟨s.toArray⟩] wr fun e w'=>e=.returned (.tuple #[])/\Zep w w' C g A Sv G xs mx (b++Zco s) qo/\KeepF wr w':=by
 obtain⟨A',c',v,h1,h2,h3,h4,h5,h6⟩:=h
 refine(Zxi h2 s hs hl).mono ?_
 rintro e w' ⟨he,hw⟩
 refine⟨he,(Zqn h1 h3 h4 h5 h6 hw).1,?_⟩
 obtain⟨_,_,h8,_⟩:=hw
 exact Zuv h2 h8
theorem Zyn {mx:Nat}{xs:List Fld}{f:Fld}{p:Nat}(hp:fnd (isF f) (Zb9 xs)=p)(h:0 < p):Zdd mx xs f=Zd4 (p:Nat) 7 128/\Zem mx xs f=xs:=by
 subst hp
 constructor
 ·rw[Zdd,if_pos (by omega)]
 ·rw[Zem,if_pos (by omega)]
theorem Zyo {mx:Nat}{xs:List Fld}{f:Fld}{p q:Nat}(hp:fnd (isF f) (Zb9 xs)=p)(h:p=0)(hq:fnd (isN f) (Zb9 xs)=q)(hq0:0 < q):Zdd mx xs f=Zd4 (q:Nat) 6 64++Zco f.2/\Zem mx xs f=Zrs mx xs f:=by
 subst hp hq
 constructor
 ·rw[Zdd,if_neg (by omega),if_neg (by omega),List.append_nil]
 ·rw[Zem,if_neg (by omega)]
theorem Zyp {mx:Nat}{xs:List Fld}{f:Fld}{p q:Nat}(hp:fnd (isF f) (Zb9 xs)=p)(h:p=0)(hq:fnd (isN f) (Zb9 xs)=q)(hq0:q=0):Zdd mx xs f=Zd4 (q:Nat) 6 64++Zco f.1++Zco f.2/\Zem mx xs f=Zrs mx xs f:=by
 subst hp hq
 constructor
 ·rw[Zdd,if_neg (by omega),if_pos (by omega)]
 ·rw[Zem,if_neg (by omega)]
theorem Zq2 {w:World}{C g:Nat}{A:Option Addr}{c:Nat}{Sv:Value}{xs:List Fld}{mx:Nat}{ps:List Nat}(H:Znd w C g A c Sv xs mx ps qo)(hps:∀p∈ps,p<=4096)(hSv:ps=[]->Sv=.slice none 0 0)(hpl:ps.length<=1000000)(l:List Fld)(hf:∀f∈l,fOk f)(hm:l.length<=140737488355328)(hE:Ze7 l=0)
  (LA:Option Addr) (n lc:Nat) (hn:n=l.length) (hr:Zab w w.heap.size 2 LA l.length (fvs l)) (hBl:∀ad,LA=some ad->0 < l.length->¬Zl1 C g A Sv ad.block):
  CA 10 #[.pointer (some ⟨C,0,none⟩),.slice LA n lc] w fun e w'=>∃A' n' c',e=.returned (.tuple #[.slice A' n' c',.nilIface])/\n'=(Zdq ps++Za0 mx xs l).length/\n'<=c'/\Zab w' w'.heap.size 1 A' n' (bs (Zdq ps++Za0 mx xs l))/\(∀ad,A'=some ad->w.heap.size<=ad.block/\ad.block < w'.heap.size)/\∃A3 c3,Znd w' C g A3 c3 (.slice none 0 0) (Zcs mx xs l) mx [] qo/\Zax (Zl1 C g A Sv) w w'/\(∀k,Zl1 C g A3 (.slice none 0 0) k->Zl1 C g A Sv k∨w.heap.size<=k)/\(∀ad,A'=some ad->¬Zl1 C g A3 (.slice none 0 0) ad.block)/\w'.ownsRow 0 5 1 (.slice A' n' c') n' (bs (Zdq ps++Za0 mx xs l)):=by
 subst hn
 have hE1:Za2 l=false/\Zci l=false:=by
  unfold Ze7 at hE
  split at hE
  ·cases hE
  ·rename_i h
   simpa using h
 have HM1:=Hd hE1.1
 have HL1:=Hd (Zpf hE1.2)
 have HR:=Hd hr
 have HH:=Hd H
 have HPS:=Hd hps
 have HSV:=Hd hSv
 have HBL:=Hd hBl
 clear hE hE1 hps hSv hBl H
 go_enter func10,ntmps10
 go_wp2_with fail
 refine(Zg5 l hf hm LA _ lc rfl w hr).mono ?_
 rintro e w1 ⟨rfl,hb1⟩
 rw[HM1.out]
 have HB1:=Hd hb1
 clear hb1 hr
 go_wp2
 go_loopw [23] (fun i wr=>∃k:Nat,k<=l.length/\i=.int .i64 (k:Int)/\Hid (Below w.heap.size w wr)) (fun i _=>l.length-(intOf i).toNat)
 case atStart=>exact⟨0,Nat.zero_le _,rfl,HB1.out⟩
 case round=>
  obtain⟨k,hk,rfl,HBr⟩:=hrel
  by_cases hlt:k < l.length
  ·obtain⟨b,off,rfl,hbB,hcl⟩:=Zb4 (HR.out.below HBr.out) (by omega)
   obtain⟨e0,e1⟩:=hcl k hlt
   have hbr:=Nat.lt_of_lt_of_le hbB HBr.out.size
   obtain⟨g1,g2⟩:=HL1.out l[k] (List.getElem_mem hlt)
   have HB2:=Hd (HBr.out.alloc HBr.out.size (.cells #[.string ⟨l[k].1.toArray⟩,.string ⟨l[k].2.toArray⟩] 41))
   clear hcl
   generalize l[k]=f at*
   obtain⟨i1,i2⟩:=Zuu g1
   obtain⟨i3,i4⟩:=Zuu g2
   clear g1 g2
   go_wp2
   go_roundw
   case rel=>exact⟨k+1,by omega,by go_num,HB2.out⟩
   case measure=>simp[intOf];omega
  ·have hpre:=pre_new (HH.out) HBr.out
   obtain⟨G,hG⟩:=exl (wr.heap.size)
   obtain⟨Wp,hWp⟩:=exl (wr.alloc (.cells #[.slice none 0 0] 97))
   rw[hG,hWp]at hpre
   have HPRE:=Hd hpre
   obtain⟨z3,zC,⟨SA,sc,hsv⟩,zS⟩:=Zps hpre
   have ZS:=Hd zS
   rw[hsv]at z3
   have HSVE:=Hd hsv
   have HGE:=Hd hG
   have HWP:=Hd hWp
   clear hpre zS hsv hG hWp
   go_upto_region 10 with fail
   rw[HWP.out,HGE.out]
   clear hlt hk HBr HGE HWP
   go_upto_if 45 with fail
   go_cut []from 9 to 82 (fun wx=>Zep w wx C g A Sv G xs mx (Zdq ps) qo)
   case first=>
    cases ps with
    | nil=>
     go_wp2
     go_meet
     have h:=HPRE.out
     have hs0:Sv=.slice none 0 0:=by first | exact HSV.out rfl | exact HSV.out trivial
     rw[hs0]at h⊢
     exact Zwz h
    | cons p r=>
     obtain⟨q,cap,hq1,hq2,hq3⟩:=ZS.out (by simp)
     have hq4:=HSVE.out.symm.trans hq1
     injection hq4 with hq5 hq6 hq7
     subst hq5
     subst hq7
     obtain⟨n,hn⟩:=exl ((p::r).length)
     have hn1:0 < n:=by rw[<-hn];simp
     have x0:Wp.cell? ⟨q,0,none⟩=some (.int .i64 ((p:Nat):Int)):=hq3 0 (by simp)
     have xl:=hq3 (n-1) (by omega)
     have hlast:(p::r)[n-1]'(by omega)=(p::r).getLast (by simp):=by rw[List.getLast_eq_getElem];simp[hn]
     rw[hlast]at xl
     obtain⟨z,hz⟩:=exl ((p::r).getLast (by simp))
     rw[hz]at xl
     rw[hn]at z3 hpl⊢
     have hnw:wrap64 (((n:Nat):Int)-1)=((n-1:Nat):Int):=by
      unfold wrap64
      omega
     have HX:=Hd (And.intro hn (And.intro hz hq3))
     have hni:(0:Int) < ((n:Nat):Int):=by omega
     have hnd:decide (0 < n)=true:=decide_eq_true hn1
     clear hn hz hlast hq3 hq1
     go_upto_region 12 with fail
     go_quiet (fail)
     have hpd:=HPRE.out.next (Zhb (Below.refl _ Wp) nq)
     have HPD:=Hd hpd
     generalize Wp.drewN nq=Wq at*
     simp only[hnd]
     obtain⟨y3,yC,-,yS⟩:=Zps HPD.out
     obtain⟨q',cap',hq1,hq2,hq3⟩:=yS (by simp)
     have hq4:=HSVE.out.symm.trans hq1
     injection hq4 with hq5 hq6 hq7
     injection hq5 with hq5
     injection hq5 with hq5
     subst hq5
     rw[HSVE.out,HX.out.1]at y3
     have HQ3:=Hd hq3
     clear hpd yS hq3 hq1 z3 x0 xl hnd hnw hni hq6 hq7
     go_wp2
     go_loopw [10,65] (fun m i wr=>∃k:Nat,k<=n/\i=.int .i64 (k:Int)/\m=.int .i64 ((Zjn p r k:Nat):Int)/\wr=Wq) (fun _ i _=>n-(intOf i).toNat)
     case atStart=>exact⟨0,Nat.zero_le _,rfl,rfl,rfl⟩
     case round=>
      obtain⟨k,hk,rfl,rfl,rfl⟩:=hrel
      by_cases hlt:k < n
      ·have hnn:=HX.out.1
       have e0:=HQ3.out k (by omega)
       have hls:=Zsf p r k (by omega)
       obtain⟨y,hy⟩:=exl ((p::r)[k]'(by omega))
       rw[hy]at e0 hls
       have HLS:=Hd hls
       clear hls hy hnn
       generalize Zjn p r k=x at*
       go_wp2
       go_roundw
       case rel=>exact⟨k+1,by omega,by go_num,by rw[HLS.out];go_num,trivial⟩
       case measure=>simp[intOf];omega
      ·obtain rfl:k=n:=by omega
       have hla:=Zwd p r
       rw[HX.out.1]at hla
       obtain⟨m,hm2⟩:=exl (Zjn p r k)
       rw[hm2]at hla⊢
       have hm4:m<=4096:=by
        have h1:=(Zp7 r p).1
        have h2:=HPS.out p (by simp)
        omega
       have hz4:z<=4096:=by
        have h2:=HPS.out _ (List.getLast_mem (l:=p::r) (by simp))
        have h3:=HX.out.2.1
        omega
       have hb1:([]:List UInt8).length+(Zd4 (m:Nat) 5 32).length<=140737488355328:=by
        have:=Zc2 m 5 32 (by omega)
        simp only[List.length_nil]
        omega
       have hb2:([]++Zd4 (m:Nat) 5 32).length+(Zd4 (z:Nat) 5 32).length<=140737488355328:=by
        have h1:=Zc2 m 5 32 (by omega)
        have h2:=Zc2 z 5 32 (by omega)
        simp only[List.nil_append]
        omega
       have HLA:=Hd hla
       clear hm2 hla hlt hk hm4 hz4
       go_wp2_with fail
       refine(Zy3 HPD.out _ 5 32 hb1).mono ?_
       rintro e w2 ⟨rfl,hp2,-⟩
       have HP2:=Hd hp2
       clear hp2
       by_cases hmz:m < z
       ·have i1:((m:Nat):Int) < ((z:Nat):Int):=by omega
        have i2:=decide_eq_true i1
        go_wp2_with fail
        refine(Zy3 HP2.out _ 5 32 hb2).mono ?_
        rintro e w3 ⟨rfl,hp3,-⟩
        obtain⟨hE,s3,f3,l3⟩:=Zqo hp3
        have HEA:=Hd hE
        clear hp3 hE
        go_wp2
        go_meet
        have h:=HEA.out
        rw[Zyl (HX.out.2.1) HLA.out hmz]
        exact h
       ·have i1:¬((m:Nat):Int) < ((z:Nat):Int):=by omega
        have i2:=decide_eq_false i1
        obtain⟨hE,s3,f3,l3⟩:=Zqo HP2.out
        have HEA:=Hd hE
        clear hE
        go_wp2
        go_meet
        have h:=HEA.out
        rw[saidP_no (HX.out.2.1) HLA.out hmz]
        exact h
   case rest=>
    have hxl:wt xs<=4096/\mx<=4096:=⟨HH.out.tab.wt,HH.out.tab.mx⟩
    have hl40:l.length<=40:=by
     have:=HM1.out
     simp[Za2]at this
     omega
    have hbl:∀k,(Zdq ps++Za0 mx xs (l.take k)).length<=202000:=fun k=>by
     have h1:=Zpk mx hxl.2 (l.take k) xs hxl.1
     have h2:=Zym ps HPS.out
     rw[List.length_append]
     have h3:(l.take k).length<=40:=by rw[List.length_take];omega
     omega
    have HBL2:=Hd hbl
    have HCUT:=Hd hcut
    clear hbl hxl hcut hl40
    go_wp2_with fail
    go_loopg [85] l.length (fun n i wr=>∃k:Nat,n+k=l.length/\i=.int .i64 (k:Int)/\Hid (Zep w wr C g A Sv G (Zcs mx xs (l.take k)) mx (Zdq ps++Za0 mx xs (l.take k)) qo))
    case atStart=>exact⟨0,rfl,rfl,by simpa [Zcs,Za0,Hid]using HCUT.out⟩
    case round=>
     obtain⟨k,hk,rfl,HEr⟩:=hrel
     by_cases hlt:k < l.length
     ·obtain⟨y0,y1,yC,yw⟩:=HEr.out.cells
      have hrr:Zab wr w.heap.size 2 LA l.length (fvs l):=by
       obtain⟨_,_,_,_,_,hkp,_⟩:=HEr.out
       exact Zrz HR.out hkp (Nat.le_refl _) HBL.out
      obtain⟨b,off,rfl,hbB,hcl⟩:=Zb4 hrr (by omega)
      obtain⟨e0,e1⟩:=hcl k hlt
      have hbr:=Nat.lt_of_lt_of_le hbB yw
      have hnx:=Zv8 mx xs l k hlt
      have hsd:=Zvr mx xs l k hlt
      have hfo:=hf l[k] (List.getElem_mem hlt)
      have hb0:=HBL2.out k
      obtain⟨xk,hxk⟩:=exl (Zcs mx xs (l.take k))
      obtain⟨bk,hbk⟩:=exl (Zdq ps++Za0 mx xs (l.take k))
      have hEk:=HEr.out
      rw[hxk,hbk]at hEk
      rw[hxk]at hnx hsd y1
      rw[hbk]at hb0
      have hnb:Zdq ps++Za0 mx xs (l.take (k+1))=bk++Zdd mx xk l[k]:=by rw[hsd,<-List.append_assoc,hbk]
      have HNX:=Hd hnx
      have HNB:=Hd hnb
      clear hcl hnx hsd hnb hxk hbk hrr HEr
      generalize l[k]=f at*
      have hE1:=hEk.next ((Below.refl wr.heap.size wr).alloc (Nat.le_refl _) (.cells #[.string ⟨f.1.toArray⟩,.string ⟨f.2.toArray⟩] 41))
      have hF1:Blk (wr.alloc (.cells #[.string ⟨f.1.toArray⟩,.string ⟨f.2.toArray⟩] 41)) wr.heap.size 41 #[.string ⟨f.1.toArray⟩,.string ⟨f.2.toArray⟩]:=Blk.new wr _ _
      have HE1:=Hd hE1
      have HF1:=Hd hF1
      clear hE1 hF1 hEk
      go_upto_region 25 with fail
      obtain⟨F,hFF⟩:=exl (wr.heap.size)
      obtain⟨W1,hW1⟩:=exl (wr.alloc (.cells #[.string ⟨f.1.toArray⟩,.string ⟨f.2.toArray⟩] 41))
      have HE1:=Hd (show Zep w W1 C g A Sv G xk mx bk qo by rw[<-hW1];exact HE1.out)
      have HF1:=Hd (show Blk W1 F 41 #[.string ⟨f.1.toArray⟩,.string ⟨f.2.toArray⟩]by rw[<-hW1,<-hFF];exact HF1.out)
      rw[hW1,hFF]
      refine Zd3 (fun w'=>Zep w w' C g A Sv G xk mx bk qo/\Blk w' F 41 #[.string ⟨f.1.toArray⟩,.string ⟨f.2.toArray⟩]) (by kernel_rfl) (by kernel_rfl) ?_ fun hne=> ?_
      ·exact⟨HE1.out.next ((Below.refl _ _).drew),HF1.out⟩
      have q0:∀x:WIn (fun w'=>Zep w w' C g A Sv G xk mx bk qo/\Blk w' F 41 #[.string ⟨f.1.toArray⟩,.string ⟨f.2.toArray⟩]),x.w.cell? ⟨C,0,none⟩=some (.pointer (some ⟨g,0,none⟩)):=fun x=>x.h.1.cells.1
      have q1:∀x:WIn (fun w'=>Zep w w' C g A Sv G xk mx bk qo/\Blk w' F 41 #[.string ⟨f.1.toArray⟩,.string ⟨f.2.toArray⟩]),x.w.cell? ⟨F,0,none⟩=some (.string ⟨f.1.toArray⟩):=fun x=>x.h.2.cell 0
      have q2:∀x:WIn (fun w'=>Zep w w' C g A Sv G xk mx bk qo/\Blk w' F 41 #[.string ⟨f.1.toArray⟩,.string ⟨f.2.toArray⟩]),x.w.cell? ⟨F,1,none⟩=some (.string ⟨f.2.toArray⟩):=fun x=>x.h.2.cell 1
      repeat (first | go_big_quiet_skip | (go_big_quiet_want;go_big_quiet_op;go_big_quiet_on))
      go_big_quiet_want
      go_big_quiet_op
      refine⟨_,fun x=>Zcg (enc_find x.h.1 f hfo) (fun e w9 h9=>⟨h9.1,x.h.1.next h9.2,x.h.2.below h9.2 x.h.2.lt⟩),?_⟩
      go_big_quiet_on
      repeat (first | go_big_quiet_skip | (go_big_quiet_want;go_big_quiet_op;go_big_quiet_on))
      refine wpQuiet_nil ?_
      intro w9 hw9
      have hC9:Zep w w9 C g A Sv G xk mx bk qo/\Blk w9 F 41 #[.string ⟨f.1.toArray⟩,.string ⟨f.2.toArray⟩]:=by
       obtain⟨x,hx⟩:=hw9
       rw[hx]
       exact x.h
      clear hne hw9 q0 q1 q2
      have HE9:=Hd hC9.1
      have HF9:=Hd hC9.2
      obtain⟨p,hp⟩:=exl (fnd (isF f) (Zb9 xk))
      obtain⟨q,hq⟩:=exl (fnd (isN f) (Zb9 xk))
      rw[hp,hq]
      have hpl2:p<=4096:=by have:=Zhl (isF f) (Zb9 xk);rw[Zcx]at this;omega
      have hql2:q<=4096:=by have:=Zhl (isN f) (Zb9 xk);rw[Zcx]at this;omega
      have HP:=Hd hp
      have HQ:=Hd hq
      clear hC9 hp hq e0 e1 hbr
      have hlf:(Zdd mx xk f).length<=5000:=Zpl mx xk f (by omega)
      by_cases h0:0 < p
      ·obtain⟨hs,hn⟩:=Zyn (mx:=mx) HP.out h0
       have i1:(0:Int) < ((p:Nat):Int):=by omega
       have i2:=decide_eq_true h0
       have HS:=Hd hs
       have HN:=Hd hn
       have hbd:bk.length+(Zd4 (p:Nat) 7 128).length<=140737488355328:=by rw[<-hs];omega
       clear hs hn
       go_wp2_with fail
       refine(Zu5 HE9.out _ 7 128 hbd).mono ?_
       rintro e w10 ⟨rfl,hE10,-⟩
       have HE10:=Hd hE10
       clear hE10
       go_wp2_with fail
       go_roundg (gk-1)
       case measure=>omega
       case rel=>exact⟨k+1,by omega,by go_num,by rw[HNX.out,HNB.out,HS.out,HN.out];exact HE10.out⟩
      ·have hp0:p=0:=by omega
       have i2:=decide_eq_false h0
       have i3:¬(0:Int) < ((p:Nat):Int):=by omega
       have i4:=decide_eq_false i3
       have hbd:bk.length+(Zd4 (q:Nat) 6 64).length<=140737488355328:=by
        have:=Zc2 q 6 64 (by omega)
        omega
       have HP0:=Hd hp0
       clear hp0
       go_wp2_with fail
       refine(Zu5 HE9.out _ 6 64 hbd).mono ?_
       rintro e w10 ⟨rfl,hE10,hF10⟩
       have HE10:=Hd hE10
       have HF10:=Hd (hF10 F _ HF9.out)
       clear hE10 hF10 i2 i3 i4
       by_cases hq0:q=0
       ·obtain⟨hs,hn⟩:=Zyp (mx:=mx) HP.out HP0.out HQ.out hq0
        have i5:((q:Nat):Int)=0:=by omega
        have i6:(((q:Nat):Int)==0)=true:=by simpa using i5
        have i7:(q==0)=true:=by simpa using hq0
        have HS:=Hd hs
        have HN:=Hd hn
        have hl1:=Zh7 f.1
        have hl2:=Zh7 f.2
        have hl6:=Zc2 q 6 64 (by omega)
        have hbt:(bk++Zd4 (q:Nat) 6 64).length+(Zco f.1).length<=140737488355328:=by simp only[List.length_append];omega
        have hbt2:(bk++Zd4 (q:Nat) 6 64++Zco f.1).length+(Zco f.2).length<=140737488355328:=by simp only[List.length_append];omega
        have HQ0:=Hd hq0
        clear hs hn hl1 hl2 hl6 hq0
        have r0:w10.cell? ⟨F,0,none⟩=some (.string ⟨f.1.toArray⟩):=HF10.out.cell 0
        have r1:w10.cell? ⟨F,1,none⟩=some (.string ⟨f.2.toArray⟩):=HF10.out.cell 1
        go_wp2_with fail
        refine(Zlf HE10.out f.1 hfo.1 hbt).mono ?_
        rintro e w11 ⟨rfl,hE11,hF11⟩
        have HE11:=Hd hE11
        have HF11:=Hd (hF11 F _ HF10.out)
        clear hE11 hF11 r0 r1 i5 i6 i7
        have r0:w11.cell? ⟨F,0,none⟩=some (.string ⟨f.1.toArray⟩):=HF11.out.cell 0
        have r1:w11.cell? ⟨F,1,none⟩=some (.string ⟨f.2.toArray⟩):=HF11.out.cell 1
        go_wp2_with fail
        refine(Zlf HE11.out f.2 hfo.2 hbt2).mono ?_
        rintro e w20 ⟨rfl,hE20,hF20⟩
        have HE20:=Hd hE20
        have HF20:=Hd (hF20 F _ HF11.out)
        clear hE20 hF20 r0 r1
        have r0:w20.cell? ⟨F,0,none⟩=some (.string ⟨f.1.toArray⟩):=HF20.out.cell 0
        have r1:w20.cell? ⟨F,1,none⟩=some (.string ⟨f.2.toArray⟩):=HF20.out.cell 1
        have r2:=HE20.out.cells.1
        go_upto_region 32 with fail
        go_still_tail 5,(by kernel_rfl)
        have HED:=Hd (HE20.out.next ((Below.refl _ w20).drew))
        change wpList _ _ _ _ _ w20.drew
        generalize w20.drew=w21 at*
        clear r0 r1 r2
        go_wp2_with fail
        refine(Z0p HED.out f hfo).mono ?_
        rintro e w22 ⟨⟨v,rfl⟩,hE22,-⟩
        have HE22:=Hd hE22
        clear hE22
        go_wp2_with fail
        go_roundg (gk-1)
        case measure=>omega
        case rel=>exact⟨k+1,by omega,by go_num,by rw[HNX.out,HNB.out,HS.out,HN.out];have h:=HE22.out;simp only[List.append_assoc]at h⊢;exact h⟩
       ·obtain⟨hs,hn⟩:=Zyo (mx:=mx) HP.out HP0.out HQ.out (by omega)
        have i5:¬((q:Nat):Int)=0:=by omega
        have i6:(((q:Nat):Int)==0)=false:=by simpa using i5
        have i7:(q==0)=false:=by simpa using hq0
        have HS:=Hd hs
        have HN:=Hd hn
        have hl2:=Zh7 f.2
        have hl6:=Zc2 q 6 64 (by omega)
        have hbt2:(bk++Zd4 (q:Nat) 6 64).length+(Zco f.2).length<=140737488355328:=by simp only[List.length_append];omega
        clear hs hn hl2 hl6
        have r0:w10.cell? ⟨F,0,none⟩=some (.string ⟨f.1.toArray⟩):=HF10.out.cell 0
        have r1:w10.cell? ⟨F,1,none⟩=some (.string ⟨f.2.toArray⟩):=HF10.out.cell 1
        go_wp2_with fail
        refine(Zlf HE10.out f.2 hfo.2 hbt2).mono ?_
        rintro e w20 ⟨rfl,hE20,hF20⟩
        have HE20:=Hd hE20
        have HF20:=Hd (hF20 F _ HF10.out)
        clear hE20 hF20 r0 r1
        have r0:w20.cell? ⟨F,0,none⟩=some (.string ⟨f.1.toArray⟩):=HF20.out.cell 0
        have r1:w20.cell? ⟨F,1,none⟩=some (.string ⟨f.2.toArray⟩):=HF20.out.cell 1
        have r2:=HE20.out.cells.1
        go_upto_region 32 with fail
        go_still_tail 5,(by kernel_rfl)
        have HED:=Hd (HE20.out.next ((Below.refl _ w20).drew))
        change wpList _ _ _ _ _ w20.drew
        generalize w20.drew=w21 at*
        clear r0 r1 r2
        go_wp2_with fail
        refine(Z0p HED.out f hfo).mono ?_
        rintro e w22 ⟨⟨v,rfl⟩,hE22,-⟩
        have HE22:=Hd hE22
        clear hE22
        go_wp2_with fail
        go_roundg (gk-1)
        case measure=>omega
        case rel=>exact⟨k+1,by omega,by go_num,by rw[HNX.out,HNB.out,HS.out,HN.out];have h:=HE22.out;simp only[List.append_assoc]at h⊢;exact h⟩
     ·have hke:l.take k=l:=List.take_of_length_le (by omega)
      have hE:=HEr.out
      rw[hke]at hE
      obtain⟨A',c',v,h1,h2,h3,h4,h5,h6⟩:=hE
      obtain⟨AV,cv,hv⟩:=Zas h2.own
      have hcap:(Zdq ps++Za0 mx xs l).length<=cv:=by
       rw[hv]at h2
       exact own_capW h2.own
      have hrd:Zab wr wr.heap.size 1 AV (Zdq ps++Za0 mx xs l).length (bs (Zdq ps++Za0 mx xs l)):=by
       rw[hv]at h2
       exact Zab.of_own h2.own
      have g0:wr.cell? ⟨G,0,none⟩=some v:=h2.blk.cell 0
      rw[hv]at g0
      have hfr:∀ad,AV=some ad->w.heap.size<=ad.block/\ad.block < wr.heap.size:=fun ad e=>⟨h5 ad.block (.inr (by rw[hv,e];rfl)),(h2.own.lt ad.block (by rw[hv,e];rfl)).2⟩
      have HFR:=Hd hfr
      have hnot:∀ad,AV=some ad->¬Zl1 C g A' (.slice none 0 0) ad.block:=fun ad e=>h6 ad.block (.inr (by rw[hv,e];rfl))
      have hown:wr.ownsRow 0 5 1 (.slice AV (Zdq ps++Za0 mx xs l).length cv) (Zdq ps++Za0 mx xs l).length (bs (Zdq ps++Za0 mx xs l)):=by
       have:=h2.own
       rw[hv]at this
       exact this
      have HEND:=Hd (show Znd wr C g A' c' (.slice none 0 0) (Zcs mx xs l) mx [] qo/\Zax (Zl1 C g A Sv) w wr/\(∀k,Zl1 C g A' (.slice none 0 0) k->Zl1 C g A Sv k∨w.heap.size<=k)/\(∀ad,AV=some ad->¬Zl1 C g A' (.slice none 0 0) ad.block)/\wr.ownsRow 0 5 1 (.slice AV (Zdq ps++Za0 mx xs l).length cv) (Zdq ps++Za0 mx xs l).length (bs (Zdq ps++Za0 mx xs l))from⟨h1,h3,h4,hnot,hown⟩)
      clear hnot hown
      have HRD:=Hd hrd
      clear h1 h2 h3 h4 h5 h6 hrd hv hke HEr hfr
      go_wp2
      go_ret2
      rw[<-List.length_append]
      exact⟨AV,_,cv,rfl,rfl,hcap,HRD.out,HFR.out,A',c',HEND.out⟩
end Go.Proofs.YtbgnggkgmeagkaaGreatDoor
