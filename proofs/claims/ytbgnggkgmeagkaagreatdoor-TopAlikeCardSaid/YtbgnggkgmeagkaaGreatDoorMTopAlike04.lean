/-
  A part of the proof of TopAlike: each theorem states its own conditions.
-/
import Derived.Test.YtbgnggkgmeagkaaGreatDoorMTopAlike03
set_option linter.unusedSimpArgs false
set_option linter.unusedVariables false
set_option maxRecDepth 100000
set_option maxHeartbeats 16000000
namespace Go.Proofs.YtbgnggkgmeagkaaGreatDoor
open Go.Proofs.Tryz
section
open Go.RowKit
theorem val_ones (l:List Bool):val l=2 ^ l.length-1↔l.all (fun b=>b)=true:=by
 induction l with
 | nil=>simp[val]
 | cons b r ih=>
  have hlt:=Zga r
  have hp:=Nat.two_pow_pos r.length
  rw[Zj1,List.length_cons,Nat.pow_succ,List.all_cons]
  cases b
  ·simp
   omega
  ·simp only[Bool.toNat_true,Nat.one_mul,Bool.true_and]
   rw[<-ih]
   omega
def decS (l:List UInt8):List UInt8:=(Zda l).getD []
def decE (l:List UInt8):Nat:=if(Zda l).isSome then 0 else 2
theorem Zm4 {l o:List UInt8}(h:Zda l=(some []).map (o++·)):decS l=o/\decE l=0:=by
 simp[decS,decE,h]
theorem Zew {l o:List UInt8}(h:Zda l=(none:Option (List UInt8)).map (o++·)):decS l=[]/\decE l=2:=by
 simp[decS,decE,h]
theorem Zsb (r:Option (List UInt8))(o:List UInt8)(c:UInt8):(r.map (c::·)).map (o++·)=r.map ((o++[c])++·):=by
 cases r <;> simp
theorem Zrl (m:Nat)(h:m < 8):wrap64 ((2:Int) ^ m)=((2 ^ m:Nat):Int):=by
 have e:((2:Int) ^ m)=((2 ^ m:Nat):Int):=by simp
 rw[e]
 have h2:2 ^ m<=2 ^ 8:=Nat.pow_le_pow_right (by omega) (by omega)
 generalize 2 ^ m=p at*
 unfold wrap64
 omega
structure DecAt (l:List UInt8)(W:World)(g c:Nat)(A:Option Addr)(n:Nat)(o:List UInt8)(v:Value)(wr:World):Prop where
 n8:n<=8*l.length
 olen:o.length<=n
 blk:Blk wr g 298 #[.slice A l.length c,.int .i64 (n:Int)]
 own:wr.ownsRow W.heap.size 5 1 v o.length (bs o)
 but:Zac W.heap.size g W wr
 dec:Zda l=(Go.Proofs.YtbgnggkgmeagkaaGreatDoor.dec ((Zba l).drop n)).map (o++·)
theorem Zez (many g n c:Nat)(A:Option Addr)(l:List UInt8)(z:Int)(w:World)(hm:many<=9)(hl:l.length<=140737488355328)(hn:n+many<=8*l.length)
  (hB:Blk w g 298 #[.slice A l.length c,.int .i64 (n:Int)]) (B:Nat) (hr:Zab w B 1 A l.length (bs l)) (hgB:∀ad,A=some ad->ad.block≠g) (hz:((val (((Zba l).drop n).take many):Nat):Int)=z):
  CA 311 #[.pointer (some ⟨g,0,none⟩),.int .i64 many] w fun e w'=>e=.returned (.int .i64 z)/\Blk w' g 298 #[.slice A l.length c,.int .i64 ((n+many:Nat):Int)]/\Zac w.heap.size g w w':=by
 rw[<-hz]
 exact get_any many g n c A l w hm hl hn hB B hr hgB
theorem Zey {w w':World}{B g:Nat}{e:TypeId}{size n:Nat}{v:Value}{xs:List Value}(h:w.ownsRow B e size v n xs)(hg:g < B)(hb:Zac w.heap.size g w w'):w'.ownsRow B e size v n xs:=by
 obtain⟨h1,h2⟩:=h
 refine⟨h1,?_⟩
 rcases h2 with h2 | ⟨q,cap,cur,hv,hq,hh,r⟩
 ·exact .inl h2
 ·refine .inr ⟨q,cap,cur,hv,hq,?_,r⟩
  rw[hb.block q (Blk.lt (t:=e) (cs:=cur) hh) (by omega)]
  exact hh
theorem Zac.cut {B B' g:Nat}{a b:World}(h:Zac B g a b)(hB:B'<=B):Zac B' g a b:=⟨h.os,h.tape,h.output,h.size,fun k hk=>h.block k (by omega)⟩
theorem Zpz (z:Nat)(h:z < 32):Zde.getD z 0=(ByteArray.mk Zde.toArray)[z]'(h):=by
 have hall:∀z:Fin 32,Zde.getD z.val 0=(ByteArray.mk Zde.toArray)[z.val]'(z.isLt):=by decide
 exact hall ⟨z,h⟩
theorem Ze9 {w wr:World}{A:Option Addr}{l:List UInt8}{B g:Nat}{W:World}(hr:Zab w w.heap.size 1 A l.length (bs l))(hW:Below w.heap.size w W)(hg:w.heap.size<=g)(hB:w.heap.size<=B)(hb:Zac B g W wr):Zab wr w.heap.size 1 A l.length (bs l):=
 hr.below (hW.trans (hb.below hB hg))
theorem Zm3 (l:List UInt8)(hl:l.length<=1099511627776)(A:Option Addr)(n c:Nat)(hn:n=l.length)(w:World)(hr:Zab w w.heap.size 1 A l.length (bs l)):
  CA 271 #[.slice A n c] w fun e w'=>e=.returned (.tuple #[.string ⟨(decS l).toArray⟩,Zjq (decE l)])/\Below w.heap.size w w':=by
 subst hn
 have hul:=Zfn l
 have hlm:l.length<=140737488355328:=by omega
 go_enter func271,ntmps271
 go_wp2_with fail
 have hbW:=(Below.refl w.heap.size w).alloc (Nat.le_refl _) (.cells #[.slice A l.length c,.int .i64 0] 298)
 have hblk:=Blk.new w 298 #[.slice A l.length c,.int .i64 0]
 have hWs:(w.alloc (.cells #[.slice A l.length c,.int .i64 0] 298)).heap.size=w.heap.size+1:=by simp
 generalize w.alloc (.cells #[.slice A l.length c,.int .i64 0] 298)=W at*
 have HG:Hid (0 < l.length->∀ad,A=some ad->ad.block≠w.heap.size):=by
  intro h0 ad had
  obtain⟨b,off,hA,hb,_⟩:=hr.form h0
  rw[hA]at had
  injection had with had
  subst had
  show b≠w.heap.size
  omega
 have hgW:w.heap.size < W.heap.size:=by omega
 have HBW:=Hd hbW
 have HR:=Hd hr
 clear hWs hbW hr
 go_loopw [5,6] (fun out left wr=>∃(m n:Nat) (o:List UInt8),n+m=8*l.length/\left=.int .i64 (m:Int)/\DecAt l W w.heap.size c A n o out wr) (fun _ left _=>(intOf left).toNat)
 case atStart=>exact⟨8*l.length,0,[],by omega,by go_num,by omega,by simp,hblk,World.ownsRow_nil _ _ _ _,Zac.refl _ _ _,by simp[Zda]⟩
 case round=>
  obtain⟨m,n,o,hnm,rfl,hD⟩:=hrel
  clear hblk
  have hown0:=hD.own
  obtain⟨A2,c2,rfl,hc2,hr2⟩:=Zhk hown0
  have holn:=hD.olen
  have hol:o.length<=8*l.length:=by omega
  have hbb:=hD.but
  have hblk:=hD.blk
  have hdec:=hD.dec
  have hdl:((Zba l).drop n).length=m:=by rw[List.length_drop];omega
  have hrd:=Ze9 HR.out HBW.out (Nat.le_refl _) (by omega) hbb
  have hB2:W.heap.size<=wr.heap.size:=hbb.size
  have HFR:=Hd (HBW.out.trans (hbb.below (by omega) (Nat.le_refl _)))
  have HDEC:=Hd hdec
  have HOWN:=Hd hown0
  have HBLK:=Hd hblk
  have HRD:=Hd hrd
  have HBB:=Hd hbb
  have hc0:=hblk.cell 0
  have hc1:=hblk.cell 1
  have hf1:=hblk.frozen 1
  simp only[List.getElem?_toArray,List.getElem?_cons_zero,List.getElem?_cons_succ]at hc0 hc1
  clear hD hown0 hbb hblk hdec hrd hul
  generalize hDD:(Zba l).drop n=D at*
  have HDD:=Hd hDD
  clear hDD
  by_cases hm0:m=0
  ·--the bytes are at their end
   subst hm0
   have hD0:D=[]:=List.eq_nil_of_length_eq_zero hdl
   have hfin:=HDEC.out
   rw[hD0,Zj8 (by simp) (by simp)]at hfin
   have HF:=Hd (Zm4 hfin)
   have k1:=Zb2 hr2 c2
   clear hfin hr2 hc0 hc1 hf1
   go_wp2
   go_ret2
   exact⟨by rw[HF.out.1,HF.out.2];rfl,HFR.out⟩
  have hl0:0 < l.length:=by omega
  have hgA:=Hd (HG.out hl0)
  by_cases h8:m < 8
  ·have hv:((val ((Zba l).drop n |>.take m):Nat):Int)=(val D:Int):=by
    rw[HDD.out,List.take_of_length_le (by omega)]
   have HV:=Hd hv
   have hs:=Zrl m h8
   have hp:2 ^ m<=128:=by
    have:2 ^ m<=2 ^ 7:=Nat.pow_le_pow_right (by omega) (by omega)
    omega
   have hp0:1<=2 ^ m:=Nat.one_le_two_pow
   have hvl:=Zga D
   rw[hdl]at hvl
   have HON:=Hd (val_ones D)
   rw[hdl]at HON
   clear hv hc0 hc1 hf1
   by_cases hon:D.all (fun b=>b)=true
   ·--what fills up
    have hve:=HON.out.2 hon
    have hfin:=HDEC.out
    rw[Zj8 (by omega) hon]at hfin
    have HF:=Hd (Zm4 hfin)
    have hve':(val D:Int)=((2 ^ m:Nat):Int)-1:=by omega
    rw[hve']at HV
    clear hfin hon HON hve hve' hvl
    generalize 2 ^ m=p at*
    go_wp2_with fail
    refine(Zez m w.heap.size n c A l _ wr (by omega) hlm (by omega) HBLK.out _ HRD.out hgA.out HV.out).mono ?_
    rintro e w' ⟨rfl,hb',hbt⟩
    have hown':=Zey HOWN.out hgW hbt
    have hr3:=Zab.of_own hown'
    have k1:=Zb2 hr3 c2
    have HFR2:=Hd (HFR.out.trans (hbt.below (by omega) (Nat.le_refl _)))
    clear hb' hbt hown' hr3 hr2
    go_wp2
    go_ret2
    exact⟨by rw[HF.out.1,HF.out.2];rfl,HFR2.out⟩
   ·--no ones alone
    have hvne:val D≠2 ^ m-1:=fun h=>hon (HON.out.1 h)
    have hno:¬(D.length < 8/\D.all (fun b=>b)=true):=fun h=>hon h.2
    have HNO:=Hd hno
    clear HON hon hno hvl
    generalize hvd:val D=vd at*
    clear hvd
    generalize 2 ^ m=p at*
    have hne:((vd:Int)==(p:Int)-1)=false:=by simp;omega
    clear hvne
    go_wp2_with fail
    refine(Zez m w.heap.size n c A l _ wr (by omega) hlm (by omega) HBLK.out _ HRD.out hgA.out HV.out).mono ?_
    rintro e w1 ⟨rfl,hb1,hbt1⟩
    have hown1:=Zey HOWN.out hgW hbt1
    have hk0:=hb1.cell 0
    have hk1:=hb1.cell 1
    have hkf:=hb1.frozen 1
    simp only[List.getElem?_toArray,List.getElem?_cons_zero,List.getElem?_cons_succ]at hk0 hk1
    have hs1:=hbt1.size
    have HB1:=Hd hb1
    have HO1:=Hd hown1
    have HT1:=Hd (HBB.out.trans (hbt1.cut hB2))
    clear hb1 hown1 hbt1 hr2
    by_cases h6:m < 6
    ·have hfin:=HDEC.out
     rw[Zqt HNO.out (by omega)]at hfin
     have HF:=Hd (Zew hfin)
     clear hfin
     go_wp2
     go_ret2
     exact⟨by rw[HF.out.1,HF.out.2];rfl,(HBW.out.trans (HT1.out.below (by omega) (Nat.le_refl _))).setCell (Nat.le_refl _) _⟩
    have hblk2:=HB1.out.set_ 1 (.int .i64 (n:Int))
    simp at hblk2
    have hown2:=Zr9 HO1.out (p:=⟨w.heap.size,1,none⟩) hgW (.int .i64 (n:Int))
    have hbb2:=HT1.out.setCell (p:=⟨w.heap.size,1,none⟩) (.inl rfl) (.int .i64 (n:Int))
    have HB2:=Hd hblk2
    have HO2:=Hd hown2
    have HT2:=Hd hbb2
    have hm6:6<=m:=by omega
    clear hblk2 hown2 hbb2 HB1 HO1 h6
    go_wp2_with fail
    rw[show(8*(l.length:Int)-(m:Int))=(n:Int)by omega]
    generalize w1.setCell ⟨w.heap.size,1,none⟩ (.int .i64 (n:Int))=w2 at*
    clear hk0 hk1 hkf HV hne hs hs1 HT1
    have hB22:W.heap.size<=w2.heap.size:=HT2.out.size
    obtain⟨b0,q,hbq⟩:∃b0 q,D=b0::q:=by
     cases D with
     | nil=>simp at hdl;omega
     | cons b0 q=>exact⟨b0,q,rfl⟩
    subst hbq
    have hdq:q=(Zba l).drop (n+1):=by
     have h1:=HDD.out
     rw[<-List.drop_drop,h1]
     rfl
    have hql:q.length+1=m:=by simpa using hdl
    have HV1:=Hd (show((val (((Zba l).drop n).take 1):Nat):Int)=(b0.toNat:Int)by rw[HDD.out];simp[val])
    have HRD2:=Hd (Ze9 HR.out HBW.out (Nat.le_refl _) (by omega) HT2.out)
    have HDQ:=Hd hdq
    clear hdq hdl
    cases b0 with
    | false=>
     have hz32:val (q.take 5) < 32:=by
      have h1:=Zga (q.take 5)
      have h2:(q.take 5).length=5:=by rw[List.length_take];omega
      rw[h2]at h1
      exact h1
     have HV5:=Hd (show((val (((Zba l).drop (n+1)).take 5):Nat):Int)=(val (q.take 5):Int)by rw[<-HDQ.out])
     have hfin:=HDEC.out
     rw[Zin HNO.out (by rw[List.length_cons];omega) rfl,List.drop_succ_cons,List.drop_succ_cons,List.drop_zero,Zsb]at hfin
     have hd6:q.drop 5=(Zba l).drop (n+6):=by rw[HDQ.out,List.drop_drop]
     rw[hd6]at hfin
     have HF:=Hd hfin
     clear hfin hd6 HDEC HNO
     generalize val (q.take 5)=z at*
     refine(Zez 1 w.heap.size n c A l _ w2 (by omega) hlm (by omega) HB2.out _ HRD2.out hgA.out HV1.out).mono ?_
     rintro e w3 ⟨rfl,hb3,hbt3⟩
     have hown3:=Zey HO2.out hgW hbt3
     have hbb3:=HT2.out.trans (hbt3.cut hB22)
     have hrd3:=Ze9 HR.out HBW.out (Nat.le_refl _) (by omega) hbb3
     have hB33:W.heap.size<=w3.heap.size:=hbb3.size
     have H3:=Hd hb3
     have H3o:=Hd hown3
     have H3b:=Hd hbb3
     have H3r:=Hd hrd3
     clear hb3 hown3 hbb3 hrd3 hbt3 HV1
     go_wp2_with fail
     refine(Zez 5 w.heap.size (n+1) c A l _ w3 (by omega) hlm (by omega) H3.out _ H3r.out hgA.out HV5.out).mono ?_
     rintro e w4 ⟨rfl,hb4,hbt4⟩
     have hown4:=Zey H3o.out hgW hbt4
     have hbb4:=H3b.out.trans (hbt4.cut hB33)
     have hB44:W.heap.size<=w4.heap.size:=hbb4.size
     have H4:=Hd hb4
     have H4b:=Hd hbb4
     have hob:o.length+1<=140737488355328:=by omega
     clear hb4 hbb4 hbt4 H3 H3o H3b H3r HV5
     go_wp2_with (at_builtin;refine Zdb rfl _ _ rfl W.heap.size _ _ _ rfl hown4 rfl rfl hob hB44 ?_;intro v5 w5 hown5 hb5;have hblk5:=H4.out.below hb5 hgW;have hj0:=hblk5.cell 0;have hj1:=hblk5.cell 1;simp only[List.getElem?_toArray,List.getElem?_cons_zero,List.getElem?_cons_succ]at hj0 hj1;have H5:=Hd hblk5;have H5b:=Hd (H4b.out.trans (Zac.of hb5));clear hblk5 hb5)
     go_roundw
     case rel=>
      refine⟨m-6,n+6,o++[Zde.getD z 0],by omega,by go_num,?_⟩
      refine⟨by omega,by simp;omega,?_,?_,H5b.out,HF.out⟩
      ·have:=H5.out
       rwa [show n+1+5=n+6 by omega]at this
      ·rw[Za1,List.length_append,Zpz z hz32]
       exact hown5
     case measure=>simp[intOf];omega
    | true=>
     have hfin:=HDEC.out
     rw[Zs1 HNO.out (by rw[List.length_cons];omega) (by simp) (by rw[List.length_cons];omega)]at hfin
     have HF:=Hd (Zew hfin)
     clear hfin HDEC HNO
     refine(Zez 1 w.heap.size n c A l _ w2 (by omega) hlm (by omega) HB2.out _ HRD2.out hgA.out HV1.out).mono ?_
     rintro e w3 ⟨rfl,hb3,hbt3⟩
     have H3b:=Hd (HBW.out.trans ((HT2.out.trans (hbt3.cut hB22)).below (by omega) (Nat.le_refl _)))
     clear hb3 hbt3
     go_wp2
     go_ret2
     exact⟨by rw[HF.out.1,HF.out.2];rfl,H3b.out⟩
  ·have HNO:Hid (¬(D.length < 8/\D.all (fun b=>b)=true)):=fun h=>by omega
   have hm6:6<=m:=by omega
   have hB22:=hB2
   have HB2:=HBLK
   have HO2:=HOWN
   have HT2:=HBB
   clear hc0 hc1 hf1 hr2
   go_wp2_with fail
   obtain⟨b0,q,hbq⟩:∃b0 q,D=b0::q:=by
    cases D with
    | nil=>simp at hdl;omega
    | cons b0 q=>exact⟨b0,q,rfl⟩
   subst hbq
   have hdq:q=(Zba l).drop (n+1):=by
    have h1:=HDD.out
    rw[<-List.drop_drop,h1]
    rfl
   have hql:q.length+1=m:=by simpa using hdl
   have HV1:=Hd (show((val (((Zba l).drop n).take 1):Nat):Int)=(b0.toNat:Int)by rw[HDD.out];simp[val])
   have HRD2:=Hd (Ze9 HR.out HBW.out (Nat.le_refl _) (by omega) HT2.out)
   have HDQ:=Hd hdq
   clear hdq hdl
   cases b0 with
   | false=>
    have hz32:val (q.take 5) < 32:=by
     have h1:=Zga (q.take 5)
     have h2:(q.take 5).length=5:=by rw[List.length_take];omega
     rw[h2]at h1
     exact h1
    have HV5:=Hd (show((val (((Zba l).drop (n+1)).take 5):Nat):Int)=(val (q.take 5):Int)by rw[<-HDQ.out])
    have hfin:=HDEC.out
    rw[Zin HNO.out (by rw[List.length_cons];omega) rfl,List.drop_succ_cons,List.drop_succ_cons,List.drop_zero,Zsb]at hfin
    have hd6:q.drop 5=(Zba l).drop (n+6):=by rw[HDQ.out,List.drop_drop]
    rw[hd6]at hfin
    have HF:=Hd hfin
    clear hfin hd6 HDEC HNO
    generalize val (q.take 5)=z at*
    refine(Zez 1 w.heap.size n c A l _ wr (by omega) hlm (by omega) HB2.out _ HRD2.out hgA.out HV1.out).mono ?_
    rintro e w3 ⟨rfl,hb3,hbt3⟩
    have hown3:=Zey HO2.out hgW hbt3
    have hbb3:=HT2.out.trans (hbt3.cut hB22)
    have hrd3:=Ze9 HR.out HBW.out (Nat.le_refl _) (by omega) hbb3
    have hB33:W.heap.size<=w3.heap.size:=hbb3.size
    have H3:=Hd hb3
    have H3o:=Hd hown3
    have H3b:=Hd hbb3
    have H3r:=Hd hrd3
    clear hb3 hown3 hbb3 hrd3 hbt3 HV1
    go_wp2_with fail
    refine(Zez 5 w.heap.size (n+1) c A l _ w3 (by omega) hlm (by omega) H3.out _ H3r.out hgA.out HV5.out).mono ?_
    rintro e w4 ⟨rfl,hb4,hbt4⟩
    have hown4:=Zey H3o.out hgW hbt4
    have hbb4:=H3b.out.trans (hbt4.cut hB33)
    have hB44:W.heap.size<=w4.heap.size:=hbb4.size
    have H4:=Hd hb4
    have H4b:=Hd hbb4
    have hob:o.length+1<=140737488355328:=by omega
    clear hb4 hbb4 hbt4 H3 H3o H3b H3r HV5
    go_wp2_with (at_builtin;refine Zdb rfl _ _ rfl W.heap.size _ _ _ rfl hown4 rfl rfl hob hB44 ?_;intro v5 w5 hown5 hb5;have hblk5:=H4.out.below hb5 hgW;have hj0:=hblk5.cell 0;have hj1:=hblk5.cell 1;simp only[List.getElem?_toArray,List.getElem?_cons_zero,List.getElem?_cons_succ]at hj0 hj1;have H5:=Hd hblk5;have H5b:=Hd (H4b.out.trans (Zac.of hb5));clear hblk5 hb5)
    go_roundw
    case rel=>
     refine⟨m-6,n+6,o++[Zde.getD z 0],by omega,by go_num,?_⟩
     refine⟨by omega,by simp;omega,?_,?_,H5b.out,HF.out⟩
     ·have:=H5.out
      rwa [show n+1+5=n+6 by omega]at this
     ·rw[Za1,List.length_append,Zpz z hz32]
      exact hown5
    case measure=>simp[intOf];omega
   | true=>
    by_cases h9:m < 9
    ·have hfin:=HDEC.out
     rw[Zs1 HNO.out (by rw[List.length_cons];omega) (by simp) (by rw[List.length_cons];omega)]at hfin
     have HF:=Hd (Zew hfin)
     clear hfin HDEC HNO
     refine(Zez 1 w.heap.size n c A l _ wr (by omega) hlm (by omega) HB2.out _ HRD2.out hgA.out HV1.out).mono ?_
     rintro e w3 ⟨rfl,hb3,hbt3⟩
     have H3b:=Hd (HBW.out.trans ((HT2.out.trans (hbt3.cut hB22)).below (by omega) (Nat.le_refl _)))
     clear hb3 hbt3
     go_wp2
     go_ret2
     exact⟨by rw[HF.out.1,HF.out.2];rfl,H3b.out⟩
    have hz256:val (q.take 8) < 256:=by
     have h1:=Zga (q.take 8)
     have h2:(q.take 8).length=8:=by rw[List.length_take];omega
     rw[h2]at h1
     exact h1
    have HV8:=Hd (show((val (((Zba l).drop (n+1)).take 8):Nat):Int)=(val (q.take 8):Int)by rw[<-HDQ.out])
    have hd9:q.drop 8=(Zba l).drop (n+9):=by rw[HDQ.out,List.drop_drop]
    have HD9:=Hd hd9
    have hch:(UInt8.ofNat (val (q.take 8))).toNat=val (q.take 8):=by
     simp only[UInt8.toNat_ofNat']
     omega
    have HBAD:Hid (0<=Zhx (UInt8.ofNat (val (q.take 8)))->dec (true::q)=none):=fun hi=>Z0w (l:=true::q) (by rw[List.length_cons];omega) (by simp) hi
    have HRARE:Hid (¬0<=Zhx (UInt8.ofNat (val (q.take 8)))->dec (true::q)=(dec (q.drop 8)).map (UInt8.ofNat (val (q.take 8))::·)):=fun hi=>Zop (l:=true::q) (by rw[List.length_cons];omega) (by simp) hi
    generalize hcc:UInt8.ofNat (val (q.take 8))=cc at*
    generalize val (q.take 8)=z at*
    clear hcc hd9
    have HCH:=Hd hch
    clear hch HNO
    refine(Zez 1 w.heap.size n c A l _ wr (by omega) hlm (by omega) HB2.out _ HRD2.out hgA.out HV1.out).mono ?_
    rintro e w3 ⟨rfl,hb3,hbt3⟩
    have hown3:=Zey HO2.out hgW hbt3
    have hbb3:=HT2.out.trans (hbt3.cut hB22)
    have hrd3:=Ze9 HR.out HBW.out (Nat.le_refl _) (by omega) hbb3
    have hB33:W.heap.size<=w3.heap.size:=hbb3.size
    have H3:=Hd hb3
    have H3o:=Hd hown3
    have H3b:=Hd hbb3
    have H3r:=Hd hrd3
    clear hb3 hown3 hbb3 hrd3 hbt3 HV1
    go_wp2_with fail
    refine(Zez 8 w.heap.size (n+1) c A l _ w3 (by omega) hlm (by omega) H3.out _ H3r.out hgA.out HV8.out).mono ?_
    rintro e w4 ⟨rfl,hb4,hbt4⟩
    have hown4:=Zey H3o.out hgW hbt4
    have hbb4:=H3b.out.trans (hbt4.cut hB33)
    have hB44:W.heap.size<=w4.heap.size:=hbb4.size
    have H4:=Hd hb4
    have H4b:=Hd hbb4
    have hob:o.length+1<=140737488355328:=by omega
    clear hb4 hbb4 hbt4 H3 H3o H3b H3r HV8
    by_cases hi:0<=Zhx cc
    ·obtain⟨y,hy⟩:=Int.eq_ofNat_of_zero_le hi
     have hfin:=HDEC.out
     rw[HBAD.out hi]at hfin
     have HF:=Hd (Zew hfin)
     have HY:=Hd hy
     have hcon:=idx_k cc y HY.out w4
     rw[HCH.out]at hcon
     have HC:=Hd hcon
     clear hfin hi hy HBAD HRARE HDEC hcon
     go_wp2_with fail
     refine(HC.out).mono ?_
     rintro e w' ⟨rfl,rfl⟩
     have HE:=Hd (HBW.out.trans (H4b.out.below (by omega) (Nat.le_refl _)))
     clear H4b H4 HC hown4
     go_wp2
     go_ret2
     exact⟨by rw[HF.out.1,HF.out.2];rfl,HE.out⟩
    ·have hm1:Zhx cc= -1:=by have:=(Zfs cc).1;omega
     have hfin:=HDEC.out
     rw[HRARE.out (by omega),HD9.out,Zsb]at hfin
     have HF:=Hd hfin
     have HY:=Hd hm1
     have hcon:=idx_k cc (-1) HY.out w4
     rw[HCH.out]at hcon
     have HC:=Hd hcon
     clear hfin hi hm1 HBAD HRARE HDEC hcon
     go_wp2_with fail
     refine(HC.out).mono ?_
     rintro e w' ⟨rfl,rfl⟩
     clear HC
     go_wp2_with (at_builtin;refine Zdb rfl _ _ rfl W.heap.size _ _ _ rfl hown4 rfl rfl hob hB44 ?_;intro v5 w5 hown5 hb5;have hblk5:=H4.out.below hb5 hgW;have hj0:=hblk5.cell 0;have hj1:=hblk5.cell 1;simp only[List.getElem?_toArray,List.getElem?_cons_zero,List.getElem?_cons_succ]at hj0 hj1;have H5:=Hd hblk5;have H5b:=Hd (H4b.out.trans (Zac.of hb5));clear hblk5 hb5)
     go_roundw
     case rel=>
      refine⟨m-9,n+9,o++[cc],by omega,by go_num,?_⟩
      refine⟨by omega,by simp;omega,?_,?_,H5b.out,HF.out⟩
      ·have:=H5.out
       rwa [show n+1+8=n+9 by omega]at this
      ·rw[Za1,List.length_append]
       have e1:bs [cc]=[.int .u8 (z:Int)]:=by simp[bs,HCH.out]
       rw[e1]
       exact hown5
     case measure=>simp[intOf];omega
theorem Z0f {w:World}{B:Nat}{A:Option Addr}{l:List UInt8}(h:Zab w B 1 A l.length (bs l))(h9:9<=l.length):
  ∃b off x y,A=some ⟨b,off,none⟩/\b < B/\w.cell? ⟨b,off+3,none⟩=some (.int .u8 ((x:Nat):Int))/\w.cell? ⟨b,off+4,none⟩=some (.int .u8 ((y:Nat):Int))/\(l.getD 3 0).toNat=x/\(l.getD 4 0).toNat=y/\x < 256/\y < 256:=by
 obtain⟨b,off,rfl,hb,hc⟩:=h.form (by omega)
 have e3:=hc 3 _ (Zxa l (show 3 < l.length by omega))
 have e4:=hc 4 _ (Zxa l (show 4 < l.length by omega))
 refine⟨b,off,_,_,rfl,hb,?_,?_,rfl,rfl,(l.getD 3 0).toNat_lt,(l.getD 4 0).toNat_lt⟩
 ·rw[e3,List.getD_eq_getElem?_getD,List.getElem?_eq_getElem (show 3 < l.length by omega)]
  rfl
 ·rw[e4,List.getD_eq_getElem?_getD,List.getElem?_eq_getElem (show 4 < l.length by omega)]
  rfl
theorem Za6 {P:Program}{fn:Func}{p u v:Tmp}{ty:TypeId}(h:fn.results= #[.cell p ty,.tmp u,.tmp v])(tmps:Array Value)(w:World)(g:Nat)(t:TypeId)(cs:Array Value)(d:TypeDesc)
  (hp:tmps.getD p undef=.pointer (some ⟨g,0,none⟩)) (hg:Blk w g t cs)
  (hu:P.underlying ty=some d) (hd:(match d with | .struct _ | .array _ _=>true | _=>false)=true) (hi:(P.info? ty).map (·.size)=some cs.size):
  (results fn tmps).run P w=.ok (.tuple #[.agg cs,tmps.getD u undef,tmps.getD v undef]) w:=by
 have hp':tmps[p]?.getD undef=.pointer (some ⟨g,0,none⟩):=by simpa using hp
 simp[results,h,hp',asAddr,run_loadVar_row w g t ty cs (0,0) d hg hu hd hi]
theorem Zm7 {w w1:World}(hb:Below w.drew.heap.size w.drew w1){p:Addr}{v:Value}(h:w.cell? p=some v):w1.cell? p=some v:=(hb.cell (World.block_lt_of_cell? w p h)).trans h
def Z10 (w w':World)(v:Value)(l:List UInt8):Prop:=∃A c,v=frV (Zdy l).1 A c/\w'.ownsRow w.heap.size 5 1 (.slice A (Zdy l).1.body.length c) (Zdy l).1.body.length (bs (Zdy l).1.body)/\Below w.heap.size w w'
theorem Zfv {w:World}{l:List UInt8}{N E:Nat}(h:Zdy l=(Zhh,N,E)):Z10 w (w.alloc (.cells #[.int .i64 0,.int .i64 0,.int .i64 0,.slice none 0 0] 134)) (.agg #[.int .i64 0,.int .i64 0,.int .i64 0,.slice none 0 0]) l:=
 ⟨none,0,by rw[h];rfl,by rw[h];exact World.ownsRow_nil _ _ _ _,(Below.refl _ _).alloc (Nat.le_refl _) _⟩
theorem Zj5 {w:World}{B size n:Nat}{e:TypeId}{A:Option Addr}{c:Nat}{xs:List Value}(h:w.ownsRow B e size (.slice A n c) n xs){p:Addr}(hp:∀a,A=some a->a.block≠p.block)(u:Value):(w.setCell p u).ownsRow B e size (.slice A n c) n xs:=by
 refine⟨h.1,?_⟩
 rcases h.2 with h0 | ⟨g,cap,cur,hv,hB,hh,hr⟩
 ·exact .inl h0
 ·refine .inr ⟨g,cap,cur,hv,hB,?_,hr⟩
  injection hv with hA
  exact(Below.heap_setCell w p u g (hp _ hA)).trans hh
theorem fr_end {w W0 w2:World}{l mid:List UInt8}{x y N ID:Nat}{A2:Option Addr}{c2:Nat}(hall:Zdy l=(⟨(x:Nat),(y:Nat),(ID:Nat),mid⟩,9+N,0))
  (hB:Blk W0 w.heap.size 134 #[.int .i64 0,.int .i64 0,.int .i64 0,.slice none 0 0]) (ho:w2.ownsRow W0.drew.heap.size 5 1 (.slice A2 mid.length c2) mid.length (bs mid)) (hg:Below W0.drew.heap.size W0.drew w2) (hbb:Below w.heap.size w W0):
  Blk ((((w2.setCell ⟨w.heap.size,0,none⟩ (.int .i64 ((x:Nat):Int))).setCell ⟨w.heap.size,1,none⟩ (.int .i64 ((y:Nat):Int))).setCell ⟨w.heap.size,2,none⟩ (.int .i64 ((ID:Nat):Int))).setCell ⟨w.heap.size,3,none⟩ (.slice A2 mid.length c2))
   w.heap.size 134 #[.int .i64 ((x:Nat):Int),.int .i64 ((y:Nat):Int),.int .i64 ((ID:Nat):Int),.slice A2 mid.length c2]/\
  Z10 w ((((w2.setCell ⟨w.heap.size,0,none⟩ (.int .i64 ((x:Nat):Int))).setCell ⟨w.heap.size,1,none⟩ (.int .i64 ((y:Nat):Int))).setCell ⟨w.heap.size,2,none⟩ (.int .i64 ((ID:Nat):Int))).setCell ⟨w.heap.size,3,none⟩ (.slice A2 mid.length c2))
   (.agg #[.int .i64 ((x:Nat):Int),.int .i64 ((y:Nat):Int),.int .i64 ((ID:Nat):Int),.slice A2 mid.length c2]) l:=by
 have h2:Blk w2 w.heap.size 134 #[.int .i64 0,.int .i64 0,.int .i64 0,.slice none 0 0]:=hB.drew.below hg hB.lt
 have hbe:Below w.heap.size w w2:=hbb.trans ((show Below W0.heap.size W0 w2 from⟨hg.os,hg.tape,hg.output,hg.size,hg.block⟩).mono hbb.size)
 have hlt:=h2.lt
 refine⟨(((h2.set_ 0 _).set_ 1 _).set_ 2 _).set_ 3 _,A2,c2,by rw[hall];rfl,?_,?_⟩
 ·rw[hall]
  have hne:∀a,A2=some a->a.block≠w.heap.size:=by
   intro a ha he
   have h1:=(ho.lt a.block (by
    rcases ho.2 with⟨hv,_⟩ | ⟨g,cap,cur,hv,_⟩
    ·injection hv with hv
     rw[ha]at hv
     cases hv
    ·injection hv with hv
     rw[ha]at hv
     cases hv
     rw[ha]
     rfl)).1
   have h3:=hB.lt
   have h4:W0.drew.heap.size=W0.heap.size:=rfl
   omega
  have h9:=Zj5 (Zj5 (Zj5 (Zj5 ho (p:=⟨w.heap.size,0,none⟩) hne (.int .i64 ((x:Nat):Int))) (p:=⟨w.heap.size,1,none⟩) hne (.int .i64 ((y:Nat):Int))) (p:=⟨w.heap.size,2,none⟩) hne (.int .i64 ((ID:Nat):Int))) (p:=⟨w.heap.size,3,none⟩) hne (.slice A2 mid.length c2)
  exact⟨h9.1,h9.2.imp id fun⟨g,cap,cur,hv,hB2,r⟩=>⟨g,cap,cur,hv,Nat.le_trans hbb.size hB2,r⟩⟩
 ·exact(((hbe.setCell (p:=⟨w.heap.size,0,none⟩) (Nat.le_refl _) _).setCell (p:=⟨w.heap.size,1,none⟩) (Nat.le_refl _) _).setCell (p:=⟨w.heap.size,2,none⟩) (Nat.le_refl _) _).setCell (p:=⟨w.heap.size,3,none⟩) (Nat.le_refl _) _
theorem Zsq {a b c d:Value}:(prog.info? 134).map (·.size)=some (#[a,b,c,d]:Array Value).size:=by kernel_rfl
theorem Zg7 :(prog.info? 134).map (·.size)=some (#[.int .i64 0,.int .i64 0,.int .i64 0,.slice none 0 0]:Array Value).size:=by kernel_rfl
theorem read3 {l:List UInt8}(h:¬l.length < 9):Zdz l 3=0/\Zfr l 3=Zaz (l.take 3):=by
 have h1:=Zf0 l 3
 have e:Zdz l 3=0:=by
  unfold Zdz
  rw[if_neg (by omega),if_neg (by omega),if_neg (by show¬2147483647 < Zaz (l.take 3);omega)]
 exact⟨e,by rw[Zfr,if_pos e];rfl⟩
theorem read4 {l:List UInt8}(h:¬l.length < 4):(2147483647 < Zaz (l.take 4)->Zdz l 4=10/\Zfr l 4=0)/\(¬2147483647 < Zaz (l.take 4)->Zdz l 4=0/\Zfr l 4=Zaz (l.take 4)):=by
 refine⟨fun h1=> ?_,fun h1=> ?_⟩
 ·have e:Zdz l 4=10:=by
   unfold Zdz
   rw[if_neg (by omega),if_neg (by omega),if_pos (by simpa using h1)]
  exact⟨e,by rw[Zfr,if_neg (by omega)]⟩
 ·have e:Zdz l 4=0:=by
   unfold Zdz
   rw[if_neg (by omega),if_neg (by omega),if_neg (by simpa using h1)]
  exact⟨e,by rw[Zfr,if_pos e];rfl⟩
theorem Zdt (l:List UInt8)(A:Option Addr)(n c:Nat)(hn:n=l.length)(hcap:l.length<=c)(hm:l.length<=140737488355328)(w:World)(hr:Zab w w.heap.size 1 A l.length (bs l)):
  CA 161 #[.slice A n c] w fun e w'=>∃v,e=.returned (.tuple #[v,.int .i64 ((Zdy l).2.1:Nat),Zjq (Zdy l).2.2])/\Z10 w w' v l:=by
 subst hn
 by_cases h9:l.length < 9
 ·rw[Zg6 h9,Zbe (by decide)]
  have HZ:=Hd (Zfv (w:=w) (Zg6 h9))
  clear hr
  go_enter func161,ntmps161
  go_wp2
  refine bodyPost_ret (Za6 rfl _ _ w.heap.size _ _ _ rfl (Blk.new w _ _) underlying134 rfl Zg7) rfl ?_
  exact⟨_,rfl,HZ.out⟩
 have hb0:=(Below.refl w.heap.size w).alloc (Nat.le_refl _) (.cells #[.int .i64 0,.int .i64 0,.int .i64 0,.slice none 0 0] 134)
 have hr0:=(hr.below hb0).more hb0.size
 have r5:=hr0.cut (k:=5) (cap:=c) (by omega) hcap
 rw[if_neg (by omega),Zfy]at r5
 obtain⟨b,off,x,y,rfl,hbB,e3,e4,hx,hy,hx2,hy2⟩:=Z0f hr0 (by omega)
 have h5l:(l.drop 5).length=l.length-5:=by simp
 rw[<-h5l]at r5
 have r5':Zab (w.alloc (.cells #[.int .i64 0,.int .i64 0,.int .i64 0,.slice none 0 0] 134)) (w.alloc (.cells #[.int .i64 0,.int .i64 0,.int .i64 0,.slice none 0 0] 134)).heap.size 1 (some ⟨b,off+5,none⟩) (l.drop 5).length (bs (l.drop 5)):=by
  simpa [Addr.add_lit]using r5
 have HR0:=Hd hr0
 have HR5:=Hd r5'
 have HR3:=Hd (read3 h9)
 have HR4:=Hd (read4 (l:=l.drop 5) (by omega))
 have H5L:=Hd h5l
 have HBB:=Hd hb0
 have hc5:¬c=5:=by omega
 clear r5 r5' h5l hb0
 by_cases h1024:1024 < Zaz (l.take 3)
 ·rw[Zqg h9 h1024,Zbe (by decide)]
  have HZ:=Hd (Zfv (w:=w) (Zqg h9 h1024))
  have h1:(1024:Int) < ((Zaz (l.take 3):Nat):Int):=by omega
  have H1:=Hd h1
  clear hr hr0 e3 e4 hx hy h1024 h1
  go_enter func161,ntmps161
  go_wp2_with fail
  refine(Zdo l 3 _ _ c rfl hcap (by unfold maxLen;omega) _ _ HR0.out).mono ?_
  rintro e w' ⟨rfl,rfl⟩
  rw[HR3.out.1,HR3.out.2,Zal]
  go_wp2_with fail
  refine(Zdo (l.drop 5) 4 _ _ (c-5) (by rw[H5L.out]) (by rw[H5L.out];omega) (by rw[H5L.out];unfold maxLen;omega) _ _ HR5.out).mono ?_
  rintro e w' ⟨rfl,rfl⟩
  have h1:=H1.out
  generalize Zfr (l.drop 5) 4=NN at*
  generalize Zjq (Zdz (l.drop 5) 4)=EE at*
  go_wp2
  refine bodyPost_ret (Za6 rfl _ _ w.heap.size _ _ _ rfl (Blk.new w _ _) underlying134 rfl Zg7) rfl ?_
  exact⟨_,rfl,HZ.out⟩
 by_cases hov:2147483647 < Zaz ((l.drop 5).take 4)
 ·rw[Zqe h9 h1024 hov,Zbe (by decide)]
  have HZ:=Hd (Zfv (w:=w) (Zqe h9 h1024 hov))
  have h1:¬(1024:Int) < ((Zaz (l.take 3):Nat):Int):=by omega
  have H1:=Hd h1
  have H4:=Hd (HR4.out.1 hov)
  clear hr hr0 e3 e4 hx hy h1024 h1 hov HR4
  go_enter func161,ntmps161
  go_wp2_with fail
  refine(Zdo l 3 _ _ c rfl hcap (by unfold maxLen;omega) _ _ HR0.out).mono ?_
  rintro e w' ⟨rfl,rfl⟩
  rw[HR3.out.1,HR3.out.2,Zal]
  go_wp2_with fail
  refine(Zdo (l.drop 5) 4 _ _ (c-5) (by rw[H5L.out]) (by rw[H5L.out];omega) (by rw[H5L.out];unfold maxLen;omega) _ _ HR5.out).mono ?_
  rintro e w' ⟨rfl,rfl⟩
  rw[H4.out.1,H4.out.2,Zbe (by decide)]
  have h1:=H1.out
  go_wp2
  refine bodyPost_ret (Za6 rfl _ _ w.heap.size _ _ _ rfl (Blk.new w _ _) underlying134 rfl Zg7) rfl ?_
  exact⟨_,rfl,HZ.out⟩
 have H4:=Hd (HR4.out.2 hov)
 by_cases hmo:l.length-9 < Zaz (l.take 3)
 ·rw[Zlb h9 h1024 hov hmo,Zbe (by decide)]
  have HZ:=Hd (Zfv (w:=w) (Zlb h9 h1024 hov hmo))
  have h1:¬(1024:Int) < ((Zaz (l.take 3):Nat):Int):=by omega
  have h2:((l.length:Nat):Int)-9 < ((Zaz (l.take 3):Nat):Int):=by omega
  have H1:=Hd h1
  have H2:=Hd h2
  clear hr hr0 e3 e4 hx hy h1024 h1 hov HR4 hmo h2
  go_enter func161,ntmps161
  go_wp2_with fail
  refine(Zdo l 3 _ _ c rfl hcap (by unfold maxLen;omega) _ _ HR0.out).mono ?_
  rintro e w' ⟨rfl,rfl⟩
  rw[HR3.out.1,HR3.out.2,Zal]
  go_wp2_with fail
  refine(Zdo (l.drop 5) 4 _ _ (c-5) (by rw[H5L.out]) (by rw[H5L.out];omega) (by rw[H5L.out];unfold maxLen;omega) _ _ HR5.out).mono ?_
  rintro e w' ⟨rfl,rfl⟩
  rw[H4.out.1,H4.out.2,Zal]
  have h1:=H1.out
  have h2:=H2.out
  go_wp2
  refine bodyPost_ret (Za6 rfl _ _ w.heap.size _ _ _ rfl (Blk.new w _ _) underlying134 rfl Zg7) rfl ?_
  exact⟨_,rfl,HZ.out⟩
 ·have hall:=Zuy h9 h1024 hov hmo
  rw[hx,hy]at hall
  have hlen:((l.drop 9).take (Zaz (l.take 3))).length=Zaz (l.take 3):=by
   rw[List.length_take,List.length_drop]
   omega
  have hmid:=Zej (c:=c) hr0 (at_:=9) (n:=Zaz (l.take 3)) (by omega) hcap
  obtain⟨A1,hA1⟩:=exl ((if c=9 then some (⟨b,off,none⟩:Addr)else some ⟨b,off+9,none⟩))
  rw[hA1]at hmid
  have hA0:A1=none->c-9=0:=by
   rw[<-hA1]
   split
   ·intro h;cases h
   ·intro h;cases h
  obtain⟨mid,hmd⟩:=exl ((l.drop 9).take (Zaz (l.take 3)))
  rw[hmd]at hmid hlen hall
  obtain⟨N,hN⟩:=exl (Zaz (l.take 3))
  rw[hN]at hmid hlen hmo h1024 hall
  obtain⟨ID,hID⟩:=exl (Zaz ((l.drop 5).take 4))
  have HID:=Hd hID
  rw[hID]at hall
  have HALL:=Hd hall
  rw[show(Zdy l).2.1=9+N by rw[hall],show(Zdy l).2.2=0 by rw[hall],Zal]
  have hwx:IntKind.i64.wrap ((x:Nat):Int)=((x:Nat):Int):=by rw[IntKind.wrap_i64];omega
  have hwy:IntKind.i64.wrap ((y:Nat):Int)=((y:Nat):Int):=by rw[IntKind.wrap_i64];omega
  have h1:¬(1024:Int) < ((N:Nat):Int):=by omega
  have h2:¬((l.length:Nat):Int)-9 < ((N:Nat):Int):=by omega
  have h3:9+N<=c:=by omega
  have hN2:N<=1024:=by omega
  have HN:=Hd hN
  have H1:=Hd h1
  have H2:=Hd h2
  have HA0:=Hd hA0
  have HM:=Hd hmid
  have HL:=Hd hlen
  have E3:=Hd e3
  have E4:=Hd e4
  clear hall hmd hx hy hA0 hmid hN hlen hID
  clear hr hr0 e3 e4 h1024 h1 hov HR4 hmo h2
  go_enter func161,ntmps161
  go_wp2_with fail
  refine(Zdo l 3 _ _ c rfl hcap (by unfold maxLen;omega) _ _ HR0.out).mono ?_
  rintro e w' ⟨rfl,rfl⟩
  rw[HR3.out.1,HR3.out.2,Zal]
  go_wp2_with fail
  refine(Zdo (l.drop 5) 4 _ _ (c-5) (by rw[H5L.out]) (by rw[H5L.out];omega) (by rw[H5L.out];unfold maxLen;omega) _ _ HR5.out).mono ?_
  rintro e w' ⟨rfl,rfl⟩
  rw[H4.out.1,H4.out.2,Zal,HN.out]
  have h1:=H1.out
  have h2:=H2.out
  have e3:=E3.out
  have e4:=E4.out
  rw[HID.out]
  have hB0:Blk (w.alloc (.cells #[.int .i64 0,.int .i64 0,.int .i64 0,.slice none 0 0] 134)) w.heap.size 134 #[.int .i64 0,.int .i64 0,.int .i64 0,.slice none 0 0]:=Blk.new w _ _
  have HB0:=Hd hB0
  clear hB0
  go_wp2_with fail
  generalize (w.alloc (.cells #[.int .i64 0,.int .i64 0,.int .i64 0,.slice none 0 0] 134))=W0 at*
  have hi3:(3:Int) < ((l.length:Nat):Int):=by omega
  have hi4:(4:Int) < ((l.length:Nat):Int):=by omega
  have hs9:(9:Int)+((N:Nat):Int)<=((c:Nat):Int):=by omega
  have hs0:(0:Int)<=((N:Nat):Int):=by omega
  have hs90:(0:Int)<=9+((N:Nat):Int):=by omega
  have hsm:(9:Int)<=max (9+((N:Nat):Int)) 0:=by omega
  have hsn:((9:Int)+((N:Nat):Int)).toNat-9=N:=by omega
  have hsw:IntKind.i64.wrap ((9:Int)+((N:Nat):Int))=9+((N:Nat):Int):=by rw[IntKind.wrap_i64];omega
  go_region_law (first | (go_simp;go_at_call 46;refine(Zcd A1 mid _ _ HL.out.symm HA0.out (by rw[HL.out];omega) _ (by rw[HL.out];exact HM.out.drew)).mono ?_;rintro e w2 ⟨A2,c2,rfl,ho2,hg2⟩;have HEND:=Hd (fr_end HALL.out HB0.out ho2 hg2 HBB.out);have e3:=Zm7 hg2 E3.out;have e4:=Zm7 hg2 E4.out;have hblk2:=HB0.out.drew.below hg2 HB0.out.lt;have f0:=hblk2.frozen 0;have f1:=hblk2.frozen 1;have f2:=hblk2.frozen 2;have f3:=hblk2.frozen 3;have q0:=hblk2.cell 0;have q1:=hblk2.cell 1;have q2:=hblk2.cell 2;have q3:=hblk2.cell 3))
  all_goals go_wp2
  all_goals
   refine bodyPost_ret (Za6 rfl _ _ w.heap.size _ _ _ rfl HEND.out.1 underlying134 rfl Zsq) rfl ?_
   exact⟨_,rfl,HEND.out.2⟩
end
section
def Zm6 (m:Nat):List UInt8:=if m < 128 then [UInt8.ofNat m]else UInt8.ofNat (m % 128+128)::Zm6 (m / 128)
termination_by m
decreasing_by omega
theorem Zgn {m:Nat}(h:m < 128):Zm6 m=[UInt8.ofNat m]:=by rw[Zm6,if_pos h]
theorem Zio {m:Nat}(h:¬m < 128):Zm6 m=UInt8.ofNat (m % 128+128)::Zm6 (m / 128):=by rw[Zm6,if_neg h]
def Zjw (n bits first:Int):Prop:=1<=bits/\bits<=8/\0<=n/\n<=2147483647/\0<=first/\first<=255/\first % 2 ^ bits.toNat=0
instance (n bits first:Int):Decidable (Zjw n bits first):=by unfold Zjw;infer_instance
def Zc9 (n t first:Nat):List UInt8:=if n < 2 ^ t-1 then [UInt8.ofNat (first+n)]else UInt8.ofNat (first+(2 ^ t-1))::Zm6 (n-(2 ^ t-1))
def putE (n bits first:Int):Nat:=if Zjw n bits first then 0 else 1
def Zd4 (n bits first:Int):List UInt8:=if Zjw n bits first then Zc9 n.toNat bits.toNat first.toNat else []
def Zbt :Nat->Nat->List UInt8->Nat×Nat×Nat
 | _,_,[]=>(0,0,8)
 | i,n,c::r=>
  if 2147483647 < n+c.toNat % 128*128 ^ i∨(i=4/\128<=c.toNat)then(0,0,10)
  else if 0 < i/\c.toNat=0 then(0,0,2)
  else if c.toNat < 128 then(n+c.toNat % 128*128 ^ i,i+2,0)
  else Zbt (i+1) (n+c.toNat % 128*128 ^ i) r
def Zbi (l:List UInt8)(bits:Int):Nat×Nat×Nat:=
 if bits < 1∨8 < bits then(0,0,1)else match l with
  | []=>(0,0,8)
  | c::r=>if c.toNat % 2 ^ bits.toNat < 2 ^ bits.toNat-1 then(c.toNat % 2 ^ bits.toNat,1,0)else Zbt 0 (c.toNat % 2 ^ bits.toNat) r
theorem Zjp {i n:Nat}{c:UInt8}{r:List UInt8}(h:2147483647 < n+c.toNat % 128*128 ^ i∨(i=4/\128<=c.toNat)):Zbt i n (c::r)=(0,0,10):=by
 rw[Zbt,if_pos h]
theorem Zjo {i n:Nat}{c:UInt8}{r:List UInt8}(h:¬(2147483647 < n+c.toNat % 128*128 ^ i∨(i=4/\128<=c.toNat)))(h2:0 < i/\c.toNat=0):Zbt i n (c::r)=(0,0,2):=by
 rw[Zbt,if_neg h,if_pos h2]
theorem Zgl {i n:Nat}{c:UInt8}{r:List UInt8}(h:¬(2147483647 < n+c.toNat % 128*128 ^ i∨(i=4/\128<=c.toNat)))(h2:¬(0 < i/\c.toNat=0))(h3:c.toNat < 128):
  Zbt i n (c::r)=(n+c.toNat % 128*128 ^ i,i+2,0):=by
 rw[Zbt,if_neg h,if_neg h2,if_pos h3]
theorem Zgk {i n:Nat}{c:UInt8}{r:List UInt8}(h:¬(2147483647 < n+c.toNat % 128*128 ^ i∨(i=4/\128<=c.toNat)))(h2:¬(0 < i/\c.toNat=0))(h3:¬c.toNat < 128):
  Zbt i n (c::r)=Zbt (i+1) (n+c.toNat % 128*128 ^ i) r:=by
 rw[Zbt,if_neg h,if_neg h2,if_neg h3]
theorem Zcn {t:Nat}(h1:1<=t)(h8:t<=8):2<=2 ^ t/\2 ^ t<=256:=by
 rcases(by omega:t=1∨t=2∨t=3∨t=4∨t=5∨t=6∨t=7∨t=8)with rfl | rfl | rfl | rfl | rfl | rfl | rfl | rfl <;> simp
theorem Zy4 {k:Nat}(h:k<=4):1<=128 ^ k/\128 ^ k<=268435456:=by
 rcases(by omega:k=0∨k=1∨k=2∨k=3∨k=4)with rfl | rfl | rfl | rfl | rfl <;> simp
theorem Zb0 {x:Nat}(h:x < 256):(UInt8.ofNat x).toNat=x:=by
 simp only[UInt8.toNat_ofNat']
 omega
theorem Zk0 (k:Nat):128 ^ (k+1)=128 ^ k*128:=Nat.pow_succ ..
theorem Zt6 (m k:Nat):m / 128*128 ^ (k+1)+m % 128*128 ^ k=m*128 ^ k:=by
 rw[Zk0,Nat.mul_comm (128 ^ k) 128,<-Nat.mul_assoc,<-Nat.add_mul]
 congr 1
 omega
theorem Zqc (b:List UInt8):∀(m k x:Nat),x+m*128 ^ k<=2147483647->(k=0∨0 < m)->k<=4->
  Zbt k x (Zm6 m++b)=(x+m*128 ^ k,k+1+(Zm6 m).length,0):=by
 intro m
 induction m using Nat.strongRecOn with
 | ind m ih=>
  intro k x hM h0 h4
  by_cases h:m < 128
  ·rw[Zgn h]
   have e:=Zb0 (show m < 256 by omega)
   have e2:m % 128=m:=Nat.mod_eq_of_lt h
   show Zbt k x (UInt8.ofNat m::b)=_
   rw[Zgl (by rw[e,e2];omega) (by rw[e];omega) (by rw[e];exact h),e,e2]
   rfl
  ·rw[Zio h]
   have e:=Zb0 (show m % 128+128 < 256 by omega)
   have e2:(m % 128+128) % 128=m % 128:=by omega
   have hs:=Zt6 m k
   have hk:k≠4:=by
    rintro rfl
    have h2:128*128 ^ 4<=m*128 ^ 4:=Nat.mul_le_mul_right _ (by omega)
    omega
   show Zbt k x (UInt8.ofNat (m % 128+128)::(Zm6 (m / 128)++b))=_
   rw[Zgk (by rw[e,e2];omega) (by rw[e];omega) (by rw[e];omega),e,e2]
   rw[ih (m / 128) (by omega) (k+1) _ (by omega) (.inr (by omega)) (by omega)]
   have e3:x+m % 128*128 ^ k+m / 128*128 ^ (k+1)=x+m*128 ^ k:=by omega
   have e4:k+1+1+(Zm6 (m / 128)).length=k+1+(UInt8.ofNat (m % 128+128)::Zm6 (m / 128)).length:=by
    rw[List.length_cons]
    omega
   rw[e3,e4]
theorem Zsp :∀(r:List UInt8) (k x N U:Nat),k<=4->Zbt k x r=(N,U,0)->
  ∃q,N=x+q*128 ^ k/\N<=2147483647/\k+1 < U/\U<=k+1+r.length/\Zm6 q=r.take (U-(k+1))/\(0 < k->0 < q):=by
 intro r
 induction r with
 | nil=>intro k x N U _ h;simp[Zbt]at h
 | cons c r ih=>
  intro k x N U hk h
  have hc:=c.toNat_lt
  by_cases h1:2147483647 < x+c.toNat % 128*128 ^ k∨(k=4/\128<=c.toNat)
  ·rw[Zjp h1]at h;simp at h
  by_cases h2:0 < k/\c.toNat=0
  ·rw[Zjo h1 h2]at h;simp at h
  by_cases h3:c.toNat < 128
  ·rw[Zgl h1 h2 h3]at h
   simp only[Prod.mk.injEq,and_true]at h
   obtain⟨rfl,rfl⟩:=h
   have e:c.toNat % 128=c.toNat:=Nat.mod_eq_of_lt h3
   refine⟨c.toNat,by rw[e],by omega,by omega,by simp only[List.length_cons];omega,?_,by omega⟩
   rw[Zgn h3,show k+2-(k+1)=1 by omega]
   simp
  ·rw[Zgk h1 h2 h3]at h
   obtain⟨q,hN,hM,hU,hU2,hq,hp⟩:=ih (k+1) _ N U (by omega) h
   have hq0:=hp (by omega)
   have hs:=Zt6 (c.toNat % 128+128*q) k
   have e1:(c.toNat % 128+128*q) / 128=q:=by omega
   have e2:(c.toNat % 128+128*q) % 128=c.toNat % 128:=by omega
   rw[e1,e2]at hs
   refine⟨c.toNat % 128+128*q,by omega,hM,by omega,by simp only[List.length_cons];omega,?_,by omega⟩
   rw[Zio (by omega),e1,e2,hq,show U-(k+1)=(U-(k+1+1))+1 by omega,List.take_succ_cons]
   congr 1
   apply UInt8.toNat_inj.1
   rw[Zb0 (by omega)]
   omega
theorem getV_put (n t:Nat)(b:List UInt8)(ht:1<=t)(ht8:t<=8)(hn:n<=2147483647):Zbi (Zc9 n t 0++b) (t:Int)=(n,(Zc9 n t 0).length,0):=by
 have hp:=Zcn ht ht8
 have hno:¬((t:Int) < 1∨8 < (t:Int)):=by omega
 by_cases h:n < 2 ^ t-1
 ·have e:Zc9 n t 0=[UInt8.ofNat n]:=by rw[Zc9,if_pos h,Nat.zero_add]
  rw[e]
  have e1:=Zb0 (show n < 256 by omega)
  have e2:n % 2 ^ t=n:=Nat.mod_eq_of_lt (by omega)
  simp[Zbi,hno,e1,e2,h]
 ·have e:Zc9 n t 0=UInt8.ofNat (2 ^ t-1)::Zm6 (n-(2 ^ t-1)):=by rw[Zc9,if_neg h,Nat.zero_add]
  rw[e]
  have e1:=Zb0 (show 2 ^ t-1 < 256 by omega)
  have e2:(2 ^ t-1) % 2 ^ t=2 ^ t-1:=Nat.mod_eq_of_lt (by omega)
  have e3:Zbi (UInt8.ofNat (2 ^ t-1)::Zm6 (n-(2 ^ t-1))++b) (t:Int)=Zbt 0 (2 ^ t-1) (Zm6 (n-(2 ^ t-1))++b):=by
   simp only[Zbi,if_neg hno,List.cons_append,Int.toNat_natCast,e1,e2]
   rw[if_neg (by omega)]
  rw[e3,Zqc b _ 0 _ (by omega) (.inl rfl) (by omega)]
  simp only[List.length_cons,Prod.mk.injEq,and_true]
  omega
theorem put_getV (c:UInt8)(r:List UInt8)(s:Int)(N U:Nat)(h:Zbi (c::r) s=(N,U,0)):
  1<=s/\s<=8/\N<=2147483647/\1<=U/\U<=r.length+1/\Zc9 N s.toNat (c.toNat / 2 ^ s.toNat*2 ^ s.toNat)=(c::r).take U:=by
 by_cases hno:s < 1∨8 < s
 ·simp[Zbi,hno]at h
 have hp:=Zcn (t:=s.toNat) (by omega) (by omega)
 have hc:=c.toNat_lt
 have hd:=Nat.div_add_mod c.toNat (2 ^ s.toNat)
 rw[Nat.mul_comm]at hd
 have hm:=Nat.mod_lt c.toNat (show 0 < 2 ^ s.toNat by omega)
 simp only[Zbi,if_neg hno]at h
 by_cases hlt:c.toNat % 2 ^ s.toNat < 2 ^ s.toNat-1
 ·rw[if_pos hlt]at h
  simp only[Prod.mk.injEq,and_true]at h
  obtain⟨rfl,rfl⟩:=h
  refine⟨by omega,by omega,by omega,by omega,by omega,?_⟩
  rw[Zc9,if_pos hlt,hd]
  simp
 ·rw[if_neg hlt]at h
  obtain⟨q,hN,hM,hU,hU2,hq,_⟩:=Zsp r 0 _ N U (by omega) h
  refine⟨by omega,by omega,hM,by omega,by omega,?_⟩
  have e1:N-(2 ^ s.toNat-1)=q:=by simp at hN;omega
  rw[Zc9,if_neg (by simp at hN;omega),e1,hq,show U=(U-(0+1))+1 by omega,List.take_succ_cons]
  congr 1
  rw[show c.toNat / 2 ^ s.toNat*2 ^ s.toNat+(2 ^ s.toNat-1)=c.toNat by omega]
  simp
theorem cont_len :∀(j m:Nat),m < 128 ^ (j+1)->(Zm6 m).length<=j+1:=by
 intro j
 induction j with
 | zero=>intro m h;rw[Zgn (by omega)];simp
 | succ j ih=>
  intro m h
  by_cases h1:m < 128
  ·rw[Zgn h1];simp
  ·rw[Zio h1,List.length_cons]
   have:=ih (m / 128) (by
    rw[Zk0]at h
    exact Nat.div_lt_of_lt_mul (by rw[Nat.mul_comm];exact h))
   omega
theorem Zky (n t:Nat)(h:n<=2147483647)(f:Nat:=0):(Zc9 n t f).length<=6:=by
 unfold Zc9
 split
 ·simp
 ·rw[List.length_cons]
  have:=cont_len 4 (n-(2 ^ t-1)) (by omega)
  omega
end
end Go.Proofs.YtbgnggkgmeagkaaGreatDoor
