/-
  A part of the proof of TopAlike: each theorem states its own conditions.
-/
import Derived.Test.YtbgnggkgmeagkaaGreatDoorMTopAlike33
set_option linter.unusedSimpArgs false
set_option linter.unusedVariables false
set_option maxRecDepth 100000
set_option maxHeartbeats 16000000
namespace Go.Proofs.YtbgnggkgmeagkaaGreatDoor
open Go.Proofs.Tryz
section
open Go.RowKit Go.Shelf
def RqsAt (w:World)(A:Option Addr)(rqs:List Rq):Prop:=0 < rqs.length->∃B o,A=some ⟨B,o,none⟩/\∀i (hi:i < rqs.length),∃FA BA fc bc,RqAt w (Zcf rqs[i].m rqs[i].p rqs[i].h FA rqs[i].fs.length fc BA rqs[i].b.length bc) rqs[i] FA BA fc bc/\∀j,j < 5->w.cell? ⟨B,o+i*5+j,none⟩=(Zcf rqs[i].m rqs[i].p rqs[i].h FA rqs[i].fs.length fc BA rqs[i].b.length bc)[j]?
structure AcSt (acc:List Rq)(t sm:Nat):Prop where
 ok:Zmi acc
 len:acc.length<=t
 sum:Zha (rsL acc) acc.length<=sm
 sm:sm<=900
theorem AcSt.next {acc:List Rq}{t sm:Nat}{r:Rq}(h:AcSt acc t sm)(ht:t < 8)(hs:sm+r.b.length<=900):AcSt (if okR r then acc++[r]else acc) (t+1) (sm+r.b.length):=by
 by_cases hok:okR r
 ·rw[if_pos hok]
  have h1:=Zq4 acc r
  have h2:=h.sum
  have h3:=h.len
  have h4:(acc++[r]).length=acc.length+1:=by rw[List.length_append,List.length_singleton]
  refine⟨⟨by omega,fun x hx=> ?_,by omega⟩,by omega,by omega,hs⟩
  rcases List.mem_append.1 hx with h5 | h5
  ·exact h.ok.ok x h5
  ·rw[List.mem_singleton.1 h5]
   exact hok
 ·rw[if_neg hok]
  have h3:=h.len
  have h2:=h.sum
  exact⟨h.ok,by omega,by omega,hs⟩
theorem kl_old {acc:List Rq}{kb C M g hh io:Nat}{F:List Zae}{w w0:World}(h:Kl acc kb C M g hh F w)(hio:F[io]? =some (Zel w0)):Below w0.heap.size w0 w:=by
 obtain⟨OA,A,TA,oc,c,tc,cl,Xs,h1,h2,h3⟩:=h
 exact h3.old (i:=io+7) hio
theorem Zxd (H1:OneOk)(rqs:List Rq)(z1 z2:Int)(A:Option Addr)(n c:Nat)(hn:n=rqs.length)(hnl:n<=140737488355328)(hnc:n<=c)(w:World)(hP:Pow w)(hM:Zxh w)(hD:DeB w)(hr:RqsAt w A rqs):
  CA 4 #[.slice A n c,.int .i64 z1,.int .i64 z2] w fun e w'=>e=.returned (.bool true)/\Below w.heap.size w w':=by
 have HO:=Hd (H1 w hP hM hD)
 have HP:=Hd (And.intro hP (And.intro hM hr))
 have HN:=Hd (And.intro hn (And.intro hnl hnc))
 clear hP hM hD hr hn hnl hnc
 by_cases hz:1<=z1/\z1<=5000/\1<=z2/\z2<=5000
 ·obtain⟨y1,y2,y3,y4⟩:=hz
  have x1:¬z1 < 1:=by omega
  have x2:¬5000 < z1:=by omega
  have x3:¬z2 < 1:=by omega
  have x4:¬5000 < z2:=by omega
  go_enter func4,ntmps4
  go_wp2_with fail
  refine Mo HO ?_
  rintro e w1 ⟨rfl,hb1⟩
  have h1:Sep w1 [Zel w]:=Sep.nil_.cons_ (a:=Zel w) hb1 (fun k hk=>Nat.lt_of_lt_of_le hk hb1.size) (fun _ hb=>by cases hb)
  have h2:=h1.newBlk 47 Zjv.toArray
  have HG:=Hd (gn_new w1.heap.size 2 (Nat.le_refl _) h2)
  clear h1 h2 hb1 HO
  go_wp2_with fail
  refine Mo HG ?_
  rintro e w2 ⟨xa,rfl,h3⟩
  have h4:=h3.perm (Zpv (gnL xa) [Zaa w1.heap.size 47 Zjv.toArray] [Zel w])
  have HG2:=Hd (gn_new w1.heap.size 2 (Nat.le_refl _) h4)
  clear h3 h4 HG
  go_wp2_with fail
  refine Mo HG2 ?_
  rintro e w3 ⟨xb,rfl,h5⟩
  have HK:=Hd (kl_new h5)
  clear h5 HG2
  go_wp2_with fail
  refine Mo HK ?_
  rintro e w4 ⟨kb,C,M,cg,ch,rfl,h6⟩
  obtain⟨F0,hF0⟩:∃q,Zbw ch none 0 [] 4096::(gnL xb++(Zaa w1.heap.size 47 Zjv.toArray::(gnL xa++[Zel w])))=q:=⟨_,rfl⟩
  have hio:F0[34]? =some (Zel w):=by rw[<-hF0];rfl
  have h7:Kl [] kb C M cg ch F0 w4:=by rw[<-hF0];exact h6
  have HF0:=Hd hF0
  have HIO:=Hd hio
  have H6:=Hd h7
  have HA0:=Hd (show AcSt [] 0 0 from⟨⟨by decide,(by intro r hr;cases hr),by decide⟩,by decide,by decide,by decide⟩)
  clear h6 h7 HK hF0 hio
  go_upto_block 0 with fail
  go_cut [14,15]from 68 to 93 (fun s i wx=>Hid (∃acc,Zmi acc/\Kl acc kb C M cg ch F0 wx))
  case first=>
   go_wp2_with fail
   go_loopg [14,15] 8 (fun mm s i wr=>∃(t sm:Nat) (acc:List Rq),mm+t=8/\s=.int .i64 (sm:Int)/\i=.int .i64 (t:Int)/\Hid (AcSt acc t sm)/\Hid (Kl acc kb C M cg ch F0 wr))
   case atStart=>exact⟨0,0,[],rfl,rfl,rfl,HA0,H6⟩
   case round=>
    clear HA0 H6
    obtain⟨t,sm,acc,ht,rfl,rfl,HA,HK⟩:=hrel
    have i0:¬(t:Int) < 0:=by omega
    by_cases htn:t < n
    ·have i1:(t:Int) < (n:Int):=by omega
     by_cases ht8:t < 8
     ·have i2:(t:Int) < 8:=by omega
      obtain⟨B,o,rfl,hB⟩:=HP.out.2.2 (by have:=HN.out;omega)
      obtain⟨FA,BA,fc,bc,hr,hcl⟩:=hB t (by have:=HN.out;omega)
      obtain⟨r,hrr⟩:=exl (rqs[t]'(by have:=HN.out;omega))
      rw[hrr]at hr hcl
      have hbw:=kl_old HK.out HIO.out
      have c0:=hcl 0 (by decide)
      have c1:=hcl 1 (by decide)
      have c2:=hcl 2 (by decide)
      have c3:=hcl 3 (by decide)
      have c4:=hcl 4 (by decide)
      have hlt:=World.block_lt_of_cell? w _ (show w.cell? ⟨B,o+t*5+0,none⟩=some _ from c0)
      obtain⟨bl,hbl⟩:∃q,r.b.length=q:=⟨_,rfl⟩
      rw[hbl]at c4
      obtain⟨VV,hVV⟩:∃q,q=Zcf r.m r.p r.h FA r.fs.length fc BA r.b.length bc:=⟨_,rfl⟩
      have k0:wr.cell? ⟨B,o+t*5,none⟩=some (.string ⟨r.m.toArray⟩):=(hbw.cell (p:=⟨B,o+t*5+0,none⟩) hlt).trans c0
      have k1:wr.cell? ⟨B,o+t*5+1,none⟩=some (.string ⟨r.p.toArray⟩):=(hbw.cell (p:=⟨B,o+t*5+1,none⟩) hlt).trans c1
      have k2:wr.cell? ⟨B,o+t*5+2,none⟩=some (.string ⟨r.h.toArray⟩):=(hbw.cell (p:=⟨B,o+t*5+2,none⟩) hlt).trans c2
      have k3:wr.cell? ⟨B,o+t*5+3,none⟩=some (.slice FA r.fs.length fc):=(hbw.cell (p:=⟨B,o+t*5+3,none⟩) hlt).trans c3
      have k4:wr.cell? ⟨B,o+t*5+4,none⟩=some (.slice BA bl bc):=(hbw.cell (p:=⟨B,o+t*5+4,none⟩) hlt).trans c4
      have HB:=Hd (show VV=Zcf r.m r.p r.h FA r.fs.length fc BA bl bc/\r.b.length=bl from⟨hVV.trans (by rw[hbl]),hbl⟩)
      rw[<-hVV]at hr
      have HRA:=Hd hr
      obtain⟨s2,hs2⟩:∃q:Int,((sm+bl:Nat):Int)=q:=⟨_,rfl⟩
      have e1:(sm:Int)+(bl:Int)=s2:=by omega
      have e2:wrap64 s2=s2:=by unfold wrap64;have:=hr.bl;have:=HA.out.sm;omega
      have HS2:=Hd hs2
      have HHT:=Hd (And.intro ht (And.intro htn ht8))
      clear hr hcl hbw c0 c1 c2 c3 c4 hlt hVV hbl hrr hs2 ht htn ht8
      by_cases hs9:(900:Int) < s2
      ·go_wp2_with fail
       go_meet
       exact Hd ⟨acc,HA.out.ok,HK.out⟩
      ·have hle:sm+r.b.length<=900:=by have:=HS2.out;have:=HB.out.2;omega
       have HC:=Hd (ks_step HP.out.2.1 HIO.out HA.out.ok (by have:=HA.out.len;have:=HHT.out;omega) (by have:=HA.out.sum;omega) HRA.out HK.out)
       rw[HB.out.1]at HC
       go_wp2_with fail
       refine Mo HC ?_
       rintro e wq ⟨⟨u,rfl⟩,hkq⟩
       have HKQ:=Hd hkq
       have HAQ:=Hd (HA.out.next (r:=r) HHT.out.2.2 hle)
       clear hkq HC
       have j1:wrap64 ((t:Int)+1)=((t+1:Nat):Int):=by unfold wrap64;have:=HHT.out;omega
       go_wp2_with fail
       go_roundg (7-t)
       case measure=>have:=HHT.out;omega
       case rel=>
        refine⟨t+1,sm+r.b.length,_,by have:=HHT.out;omega,?_,?_,HAQ,HKQ⟩
        ·rw[<-HS2.out,HB.out.2]
        ·rw[Int.natCast_add];rfl
     ·have i2:¬(t:Int) < 8:=by omega
      go_wp2_with fail
      go_meet
      exact Hd ⟨acc,HA.out.ok,HK.out⟩
    ·have i1:¬(t:Int) < (n:Int):=by omega
     go_wp2_with fail
     go_meet
     exact Hd ⟨acc,HA.out.ok,HK.out⟩
  case rest=>
   obtain⟨acc,hao,hk⟩:=hcut.out
   have HAO:=Hd hao
   have HKO:=Hd (kl_out hk)
   clear hcut hk hao HA0 H6
   obtain⟨X,hX⟩:∃q,Zf6++Zcw (rsL acc) (bkL acc) acc.length=q:=⟨_,rfl⟩
   obtain⟨nX,hnX⟩:∃q,X.length=q:=⟨_,rfl⟩
   rw[hX,hnX]at HKO
   have HX:=Hd (And.intro hX hnX)
   clear hX hnX
   go_wp2_with fail
   refine Mo HKO ?_
   rintro e w5 ⟨B,oc,rfl,hoc,h5⟩
   rw[<-HF0.out]at h5
   have h6:=h5.perm (perm_two _ _ _ _ (gnL xa) (gnL xb))
   obtain⟨m1,hm1⟩:∃s:Nat,(s:Int)=z1:=⟨z1.toNat,by omega⟩
   obtain⟨m2,hm2⟩:∃s:Nat,(s:Int)=z2:=⟨z2.toNat,by omega⟩
   have HFE:=Hd (Zu1 HAO.out (sz:=m1) (io:=1) (ix:=0) HX.out.1 HX.out.2 HP.out.1 rfl hoc rfl (by omega) (by omega) h6)
   rw[hm1]at HFE
   have HM2:=Hd (And.intro hm2 hoc)
   clear h5 h6 hm1 hm2 HKO hoc
   go_wp2_with fail
   refine Mo HFE ?_
   rintro e w6 ⟨rfl,za,Ya,hga,hDa,h7⟩
   have h8:=h7.perm (Zy6 _ _ _ _ (g5 za) Ya (gnL xb))
   have HFE2:=Hd (Zu1 HAO.out (sz:=m2) (io:=1) (ix:=0) HX.out.1 HX.out.2 HP.out.1 rfl HM2.out.2 rfl (by have:=HM2.out.1;omega) (by have:=HM2.out.1;omega) h8)
   rw[HM2.out.1]at HFE2
   have HDA:=Hd (And.intro hga hDa)
   clear h7 h8 HFE hga hDa
   go_wp2_with fail
   refine Mo HFE2 ?_
   rintro e w7 ⟨rfl,zb,Yb,hgb,hDb,h9⟩
   have h10':=h9.perm (Zy5 _ _ (g5 za) (g5 zb) Yb _)
   obtain⟨Z,hZ⟩:∃q,(Zad 5 1 (.slice (some ⟨B,0,none⟩) nX oc) nX (bs X)::(Yb++(Ya++[Zbw ch none 0 [] 4096,Zaa w1.heap.size 47 Zjv.toArray])))=q:=⟨_,rfl⟩
   have h10:Sep w7 (g5 za++(g5 zb++(Zel w::Z))):=by rw[<-hZ];exact h10'
   obtain⟨hga,hDa⟩:=HDA.out
   have hjl:=jb_len HAO.out acc.length (Nat.le_refl _)
   have hjf:=jb_few acc
   have hac:=HAO.out.len
   obtain⟨d,hd⟩:∃q,dsR dS1 (rsL acc) acc.length=q:=⟨_,rfl⟩
   rw[hd]at hDa hDb hjl hjf
   have HJ1:=Hd (g_jobs za hDa (by omega) (i:=3) (j:=0) h10 rfl rfl)
   rw[hga]at HJ1
   have HD:=Hd (And.intro (And.intro hga hDa) (And.intro (And.intro hgb hDb) (And.intro hjl (show d.jb.length<=8 by omega))))
   clear h9 h10 h10' HFE2 HDA hga hgb hDa hDb hjl hjf hac hd hZ
   obtain⟨dn,hdn⟩:∃q,d.jb.length=q:=⟨_,rfl⟩
   rw[hdn]at HJ1
   have HDN:=Hd hdn
   clear hdn
   go_wp2_with fail
   refine Mo HJ1 ?_
   rintro e w8 ⟨A1,c1,rfl,h11⟩
   have HJ2:=Hd (g_jobs zb HD.out.2.1.2 (by have:=HD.out.2.2.2;omega) (i:=9) (j:=6) h11 rfl rfl)
   rw[HD.out.2.1.1,HDN.out]at HJ2
   clear h11 HJ1
   go_wp2_with fail
   refine Mo HJ2 ?_
   rintro e w9 ⟨A2,c2,rfl,h12⟩
   have HI:=Hd (Zzv (n:=dn) (zs:=Zwe dn) (Zgy dn).symm (by have:=HD.out.2.2.2;have:=HDN.out;omega) (fun h0=>Zks h12 (i:=1) rfl (Zgy dn).symm h0) (fun h0=>Zks h12 (i:=0) rfl (Zgy dn).symm h0))
   have H12:=Hd h12
   clear h12 HJ2
   go_wp2_with fail
   refine Mo HI ?_
   rintro e wa ⟨rfl,hba⟩
   have H13:=Hd (H12.out.below hba)
   clear hba HI H12
   go_wp2_with fail
   go_loopg [22,23,24,25,26,27,28] dn (fun mm i a1 a2 a3 a4 a5 a6 wr=>∃t:Nat,mm+t=dn/\i=.int .i64 (t:Int)/\Hid (Sep wr (Zad 3 1 (.slice A2 dn c2) dn ((Zwe dn).map encZ)::Zad 3 1 (.slice A1 dn c1) dn ((Zwe dn).map encZ)::(g5 za++(g5 zb++(Zel w::Z))))))
   case atStart=>exact⟨0,rfl,rfl,H13⟩
   case round=>
    obtain⟨t,ht,rfl,HS⟩:=hrel
    clear H13
    have i0:¬(t:Int) < 0:=by omega
    by_cases htn:t < dn
    ·have i1:(t:Int) < (dn:Int):=by omega
     obtain⟨ky,hky⟩:∃q,(Zwe dn)[t]? =some q:=⟨_,List.getElem?_eq_getElem (by rw[Zgy];exact htn)⟩
     obtain⟨tq,b,hjob⟩:=g_job (d:=d) HDN.out hky HD.out.2.2.1
     obtain⟨ga1,rfl,k1⟩:=Zyt HS.out (i:=1) rfl (Zgy dn) hky
     have HC1:=Hd (hjob za _ _ _ 2 5 6 HD.out.1.2 HS.out rfl rfl rfl)
     rw[HD.out.1.1]at HC1
     have HJB:=Hd hjob
     have HKY:=Hd hky
     have HT:=Hd (And.intro ht htn)
     clear hjob hky ht htn
     obtain⟨bl,hbl⟩:∃q,b.length=q:=⟨_,rfl⟩
     rw[hbl]at HC1
     have HBL:=Hd hbl
     clear hbl
     go_wp2_with fail
     refine Mo HC1 ?_
     rintro e wb ⟨B1,d1,rfl,h14⟩
     obtain⟨ga2,rfl,k2⟩:=Zyt h14 (i:=1) rfl (Zgy dn) HKY.out
     have HC2:=Hd (HJB.out zb _ _ _ 8 11 12 HD.out.2.1.2 h14 rfl rfl rfl)
     rw[HD.out.2.1.1,HBL.out]at HC2
     clear HC1 h14
     go_wp2_with fail
     refine Mo HC2 ?_
     rintro e wd ⟨B2,d2,rfl,h15⟩
     have k3:=Zb2 (w:=wd) (A:=B1) (l:=b) (by rw[HBL.out];exact Zag h15 (i:=1) rfl) d1
     have k4:=Zb2 (w:=wd) (A:=B2) (l:=b) (by rw[HBL.out];exact Zag h15 (i:=0) rfl) d2
     rw[HBL.out]at k3 k4
     have H15:=Hd h15
     clear HC2 h15 k1 k2
     have j1:wrap64 ((t:Int)+1)=((t+1:Nat):Int):=by unfold wrap64;have:=HT.out;have:=HD.out.2.2.2;have:=HDN.out;omega
     go_wp2_with fail
     go_roundg (gk-1)
     case measure=>have:=HT.out;omega
     case rel=>exact⟨t+1,by have:=HT.out;omega,congrArg _ j1,Hd H15.out.tail.tail⟩
    ·have i1:¬(t:Int) < (dn:Int):=by omega
     have HO1:=Hd (g_out za HD.out.1.2 HS.out.tail.tail)
     rw[HD.out.1.1]at HO1
     obtain⟨nx,hnx⟩:∃q,d.xs.length=q:=⟨_,rfl⟩
     rw[hnx]at HO1
     have HNX:=Hd hnx
     clear hnx ht htn
     go_wp2_with fail
     refine Mo HO1 ?_
     rintro e wb ⟨B1,d1,rfl,h14⟩
     have h15:=h14.perm (Zpv [_] (g5 zb) (Zel w::Z))
     have HO2:=Hd (g_out zb HD.out.2.1.2 h15)
     rw[HD.out.2.1.1,HNX.out]at HO2
     clear h14 h15 HO1
     go_wp2_with fail
     refine Mo HO2 ?_
     rintro e wd ⟨B2,d2,rfl,h16⟩
     have k3:=Zb2 (w:=wd) (A:=B1) (l:=d.xs) (by rw[HNX.out];exact Zag h16 (i:=1) rfl) d1
     have k4:=Zb2 (w:=wd) (A:=B2) (l:=d.xs) (by rw[HNX.out];exact Zag h16 (i:=0) rfl) d2
     rw[HNX.out]at k3 k4
     have H16:=Hd (h16.old (i:=2) rfl)
     clear HO2 h16
     go_wp2
     go_ret
     exact⟨rfl,H16.out⟩
 ·go_enter func4,ntmps4
  go_wp2_with fail
  refine Mo HO ?_
  rintro e w1 ⟨rfl,hb1⟩
  have HB1:=Hd hb1
  have hq:z1 < 1∨(¬z1 < 1/\5000 < z1)∨(¬z1 < 1/\¬5000 < z1/\z2 < 1)∨(¬z1 < 1/\¬5000 < z1/\¬z2 < 1/\5000 < z2):=by omega
  clear hb1 hz
  rcases hq with x1 | ⟨x1,x2⟩ | ⟨x1,x2,x3⟩ | ⟨x1,x2,x3,x4⟩
  all_goals
   go_wp2
   go_ret
   exact⟨rfl,HB1.out⟩
theorem Za4 {F:List Zae}{i b n c:Nat}{l:List UInt8}(hi:F[i]? =some (Zad 5 1 (.slice (some ⟨b,0,none⟩) n c) n (bs l)))(o k:Nat)(ys:List UInt8)(hy:(l.drop o).take k=ys)(ho:o+k<=n)(hk:0 < k):
  ∀w',Sep w' F->Zab w' w'.heap.size 1 (some ⟨b,o,none⟩) k (bs ys):=by
 intro w' h
 have h1:=(Zag h hi).cut (k:=o) (by omega) (h.cap hi)
 have hc:=h.cap hi
 rw[Nat.mul_one,Zfy,if_neg (by omega),show(some (⟨b,0,none⟩:Addr)).map (fun a=>a.add o)=some ⟨b,o,none⟩by simp[Addr.add_lit]]at h1
 have h2:=h1.take (k:=k) (by omega)
 rw[Zov,hy]at h2
 exact h2
theorem Zev {w:World}{F:List Zae}{g kb C S M n c k bc Li St CM JM:Nat}{A B:Option Addr}{Rt log ord out part evs:Value}{xs ys:List UInt8}{iw ow un last:Int}{began:Bool}
  (hn:n=xs.length) (hk:k=ys.length) (hs:n+k<=1000) (hB:∀w',Sep w' F->Zab w' w'.heap.size 1 B k (bs ys)) (hS:Zdy (xs++ys)=(Zhh,0,8))
  (h:Sep w (Zaa g 120 (Za7 kb Rt Li St CM JM last log)::Zaa kb 200 (Zaf C S M ord (.slice A n c) out iw ow un began part evs)::Zad 5 1 (.slice A n c) n (bs xs)::F)):
  CA 59 #[.pointer (some ⟨g,0,none⟩),.slice B k bc] w fun e w'=>e=.returned .nilIface/\
   ∃A' c',Sep w' (Zaa g 120 (Za7 kb Rt Li St CM JM last log)::Zaa kb 200 (Zaf C S M ord (.slice A' (n+k) c') out iw ow un began part (.slice none 0 0))::Zad 5 1 (.slice A' (n+k) c') (n+k) (bs (xs++ys))::F):=by
 refine Zof ((h.at_ (i:=0) rfl).1 0) ((h.at_ (i:=1) rfl).1 11) ((nf_short hn hk hs (fun w' hw=>hB w' hw.tail) hS ((h.front 2 rfl).front 2 rfl)).mono ?_)
 rintro e w' ⟨rfl,A',c',h'⟩
 exact⟨none,0,rfl,A',c',h'.front 2 rfl⟩
theorem gf_set {w:World}{F:List Zae}{g kb C S M n c k bc z Li St CM JM:Nat}{A B:Option Addr}{Rt log evs:Value}{xs ys:List UInt8}{iw ow un last:Int}{began:Bool}(zs:List UInt8)(u:Nat)
  (hn:n=xs.length) (hk:k=ys.length) (hs:n+k<=1000) (hB:∀w',Sep w' F->Zab w' w'.heap.size 1 B k (bs ys)) (hS:Zdy (xs++ys)=(⟨4,0,0,[]⟩,u,0)) (hu:u<=n+k) (hu0:0 < n+k) (hz:(xs++ys).drop u=zs) (hzl:z=zs.length) (hS2:Zdy zs=(Zhh,0,8))
  (h:Sep w (Zaa g 120 (Za7 kb Rt Li St CM JM last log)::Zaa kb 200 (Zaf C S M (.slice none 0 0) (.slice A n c) (.slice none 0 0) iw ow un began (.pointer none) evs)::Zad 5 1 (.slice A n c) n (bs xs)::F)):
  CA 59 #[.pointer (some ⟨g,0,none⟩),.slice B k bc] w fun e w'=>e=.returned .nilIface/\
   ∃A' c' OA oc,Sep w' (Zaa g 120 (Za7 kb Rt Li St CM JM last log)::Zaa kb 200 (Zaf C S M (.slice none 0 0) (.slice A' z c') (.slice OA 9 oc) iw ow un true (.pointer none) (.slice none 0 0))::Zad 5 1 (.slice A' z c') z (bs zs)::Zad 5 1 (.slice OA 9 oc) 9 (bs Zf5)::F):=by
 refine Zof ((h.at_ (i:=0) rfl).1 0) ((h.at_ (i:=1) rfl).1 11) ((Zp0 ⟨4,0,0,[]⟩ zs hn hk hs (fun w' hw=>hB w' hw.tail) hS hu hu0 hz hzl hS2
  (fun ord' out' iw' ow' un' began' part' evs' G=>∃OA oc,ord'=.slice none 0 0/\out'=.slice OA 9 oc/\iw'=iw/\ow'=ow/\un'=un/\began'=true/\part'=.pointer none/\evs'=.slice none 0 0/\G=Zad 5 1 (.slice OA 9 oc) 9 (bs Zf5)::Zaa g 120 (Za7 kb Rt Li St CM JM last log)::F) ?_ ((h.front 2 rfl).front 2 rfl)).mono ?_)
 ·intro w1 A1 BA c1 b1 h1
  have h2:=(h1.nilRow 5 1).front 1 rfl
  refine(Zll (n:=0) (xs:=[]) (by decide) h2).mono ?_
  rintro e w' ⟨rfl,A',c',h'⟩
  refine⟨rfl,_,_,_,_,_,_,_,_,_,⟨A',c',rfl,rfl,rfl,rfl,rfl,rfl,rfl,rfl,rfl⟩,?_⟩
  exact((h'.drop_ 3).front 2 rfl).front 1 rfl
 ·rintro e w' ⟨_,_,_,_,_,_,_,_,_,A',c',rfl,⟨OA,oc,rfl,rfl,rfl,rfl,rfl,rfl,rfl,rfl,rfl⟩,h'⟩
  exact⟨none,0,rfl,A',c',OA,oc,h'.front 3 rfl⟩
theorem Zur {w:World}{L:List Zae}{i M c:Nat}{v:Value}(h:Sep w L)(hi:L[i]? =some (Zak M (Zaw v) c)):(Instr.lookup 117 (.map (some M)) (.int .i64 1) true).run prog w=.ok (.tuple #[v,.bool true]) w:=
 Zcr (P:=prog) (t:=117) (k:=.int .i64 1) underlying117 underlying3 rfl (h.map_ hi) (i:=0) (by rfl) true
theorem del_job {w:World}{L:List Zae}{i M c:Nat}{v:Value}(h:Sep w L)(hi:L[i]? =some (Zak M (Zaw v) c))(ty:TypeId):
  (Builtin.delete_ #[117,3] ty #[.map (some M),.int .i64 1]).run prog w=.ok (.tuple #[]) (putM w M #[] c):=by
 have e:(Zaw v).eraseIdxIfInBounds 0= #[]:=by simp[Zaw,Array.eraseIdxIfInBounds]
 have h1:=Zry (P:=prog) (t:=117) (k:=.int .i64 1) ty underlying117 underlying3 rfl (h.map_ hi) (i:=0) (v0:=v) (by rfl)
 rw[e]at h1
 exact h1
theorem ga_done {w w0:World}{F:List Zae}{io g kb C S M MS X n c mc sc gg hh Li St CM JM Y cm jm b o tc jn jc fn7 fc7 bn8 bc8:Nat}{A ja fa ba:Option Addr}{R inn part evs fl bd:Value}{xs:List UInt8}{iw un ci cu last:Int}{began:Bool}(hn:n<=900)(hP:Pow w0)(hio:F[io]? =some (Zel w0))(hR:RdIn F ⟨b,o,none⟩ Zku)(htc:45<=tc)
  (h:Sep w (Zaa g 120 (Za7 kb R Li St CM JM last (.slice none 0 0))::Zaa C 93 (Zai gg hh)::Zbw gg none 0 [] 4096::Zaa kb 200 (Zaf C S M (.slice none 0 0) inn (.slice A n c) iw 2000 un began part evs)::Zad 5 1 (.slice A n c) n (bs xs)::Zak M (Zaw (.pointer (some ⟨X,0,none⟩))) mc::
   Zaa X 313 (Zbn ci 2000 cu (.slice none 0 0) false false)::Zaa S 254 (Zbf MS 1)::Zak MS (Zaw (.int .i64 2)) sc::
   Zak CM (Zaw (.pointer (some ⟨Y,0,none⟩))) cm::Zaa Y 146 (Zd0 fl bd (.string ⟨#[80,79,83,84]⟩) (.string ⟨#[47,112]⟩) (.string ⟨#[104]⟩) (.slice fa fn7 fc7) (.slice ba bn8 bc8) 0)::Zak JM (Zaw (.agg #[.int .i64 1,.string ⟨#[97,108,108]⟩,.slice ja jn jc])) jm::F)):
  CA 24 #[.pointer (some ⟨g,0,none⟩),.int .i64 1,.slice (some ⟨b,o,none⟩) 45 tc,.bool false] w fun e w'=>e=.returned .nilIface/\∃A' c' Q' OA oc log,Sep w' (Zaa g 120 (Za7 kb R Li St CM JM last log)::Zaa kb 200 (Zaf C S M (.slice OA 0 oc) inn (.slice A' (n+26) c') iw 1996 un began part evs)::Zad 5 1 (.slice A' (n+26) c') (n+26) (bs (xs++rsB))::Zad 3 1 (.slice OA 0 oc) 0 []::Zak M (Zaw (.pointer (some ⟨X,0,none⟩))) mc::
   Zaa X 313 (Zbn ci 1996 cu Q' false true)::Zaa S 254 (Zbf MS 1)::Zak MS (Zaw (.int .i64 4)) sc::F):=by
 have kg:=h.at_ (i:=0) rfl
 have ql:=Zur h (i:=11) rfl
 have h0:=h.newBlk 141 #[.int .i64 1,.string ⟨#[97,108,108]⟩,.slice ja jn jc]
 have qd:=fun ty=>del_job h0 (i:=12) rfl ty
 have h1:=h0.putMap (i:=12) rfl (es':= #[]) (c':=jm)
 obtain⟨W1,hW1⟩:=exl (putM (w.alloc (.cells #[.int .i64 1,.string ⟨#[97,108,108]⟩,.slice ja jn jc] 141)) JM #[] jm)
 rw[hW1]at h1 qd
 have H1:=Hd h1
 unfold Za7 at kg
 clear h h0 h1
 go_enter func24,ntmps24
 go_upto_region 5 with fail
 have kD:=H1.out.at_ (i:=0) rfl
 have kg1:=H1.out.at_ (i:=1) rfl
 have ql1:=Zfg H1.out.drew (i:=10) rfl
 have ql2:=Zfg (H1.out.newBlk 25 #[.string ⟨#[]⟩,.string ⟨#[]⟩,.string ⟨#[]⟩,.slice none 0 0,.slice none 0 0]).drew (i:=11) rfl
 have kY:=H1.out.at_ (i:=11) rfl
 unfold Za7 at kg1
 unfold Zd0 at kY
 have hbm:(ByteArray.mk #[80,79,83,84]==ByteArray.mk #[72,69,65,68])=false:=by decide
 clear kg ql qd
 go_region
 all_goals
  have h2:=(H1.out.drew.newBlk 25 #[.string ⟨#[80,79,83,84]⟩,.string ⟨#[47,112]⟩,.string ⟨#[104]⟩,.slice fa fn7 fc7,.slice ba bn8 bc8])
  change Sep _ (_::_::_::_::_::_::_::_::_::_::_::_::_::Zak JM #[] jm::F)at h2
  have kQ:=h2.at_ (i:=0) rfl
  have HT:=Hd (rt_ok h2 (fun W hW=>hR W hW.tail.tail.tail.tail.tail.tail.tail.tail.tail.tail.tail.tail.tail.tail) htc)
  clear kD kg1 ql1 ql2 kY H1 h2
  go_wp2_with fail
  refine Mo HT ?_
  rintro e w2 ⟨A2,c2,rfl,h2⟩
  have h3:=h2.newBlk 69 #[.int .i64 200,.slice none 0 0,.slice A2 4 c2]
  have kR:=h3.at_ (i:=0) rfl
  have kQ2:=h3.at_ (i:=2) rfl
  have kg2:=h3.at_ (i:=4) rfl
  have kD2:=h3.at_ (i:=3) rfl
  have H3:=Hd h3
  unfold Za7 at kg2
  clear h2 h3 HT kQ
  go_upto_region 9 with fail
  obtain⟨w3,hw3⟩:=exl (w2.alloc (.cells #[.int .i64 200,.slice none 0 0,.slice A2 4 c2] 69))
  rw[hw3]at H3 kR kQ2 kg2 kD2⊢
  obtain⟨Q0,hQ0⟩:∃q,W1.drew.heap.size=q:=⟨_,rfl⟩
  have g3:=kg2.1 3
  have g7:=kg2.1 7
  have q0:w3.cell? ⟨W1.heap.size,0,none⟩=_:=kQ2.1 0
  have q1:w3.cell? ⟨W1.heap.size,1,none⟩=_:=kQ2.1 1
  have q2:w3.cell? ⟨W1.heap.size,2,none⟩=_:=kQ2.1 2
  have q3:w3.cell? ⟨W1.heap.size,3,none⟩=_:=kQ2.1 3
  have q4:w3.cell? ⟨W1.heap.size,4,none⟩=_:=kQ2.1 4
  have r0:=kR.1 0
  have r1:=kR.1 1
  have r2:=kR.1 2
  go_region_held3 (fun w'=>w'.cell? ⟨g,3,none⟩=some (.pointer (some ⟨St,0,none⟩))/\w'.cell? ⟨g,7,none⟩=some (.int .i64 0)/\w'.cell? ⟨W1.heap.size,0,none⟩=some (.string ⟨#[80,79,83,84]⟩)/\w'.cell? ⟨W1.heap.size,1,none⟩=some (.string ⟨#[47,112]⟩)/\w'.cell? ⟨W1.heap.size,2,none⟩=some (.string ⟨#[104]⟩)/\w'.cell? ⟨W1.heap.size,3,none⟩=some (.slice fa fn7 fc7)/\w'.cell? ⟨W1.heap.size,4,none⟩=some (.slice ba bn8 bc8)/\w'.cell? ⟨w2.heap.size,0,none⟩=some (.int .i64 200)/\w'.cell? ⟨w2.heap.size,1,none⟩=some (.slice none 0 0)/\w'.cell? ⟨w2.heap.size,2,none⟩=some (.slice A2 4 c2))
   (first | (with_reducible exact⟨g3,g7,q0,q1,q2,q3,q4,r0,r1,r2⟩) | (with_reducible exact⟨s3,s7,t0,t1,t2,t3,t4,u0,u1,u2⟩) | go_keep)
   (first
   | (go_at_call 67;refine(show Calls _ _ _ _ _ from sto_put (code:=200) H3.out.drew).mono ?_;rintro e w4 ⟨rfl,h4⟩;have kg4:=h4.at_ (i:=4) rfl;have kQ4:=h4.at_ (i:=2) rfl;have kR4:=h4.at_ (i:=0) rfl;have kD4:=h4.at_ (i:=3) rfl;unfold Za7 at kg4;have s3:=kg4.1 3;have s7:=kg4.1 7;have t0:w4.cell? ⟨W1.heap.size,0,none⟩=_:=kQ4.1 0;have t1:w4.cell? ⟨W1.heap.size,1,none⟩=_:=kQ4.1 1;have t2:w4.cell? ⟨W1.heap.size,2,none⟩=_:=kQ4.1 2;have t3:w4.cell? ⟨W1.heap.size,3,none⟩=_:=kQ4.1 3;have t4:w4.cell? ⟨W1.heap.size,4,none⟩=_:=kQ4.1 4;have u0:=kR4.1 0;have u1:=kR4.1 1;have u2:=kR4.1 2;have H4:=Hd h4;clear h4 kg4 kQ4 H3 g3 g7 q0 q1 q2 q3 q4 r0 r1 r2 kR kQ2 kg2 kD2))
  clear s3 s7 t0 t1 t2 t3 t4 u0 u1 u2
  have hs:=((((((((((((H4.out.front 14 rfl).front 14 rfl).front 3 rfl).front 14 rfl).front 14 rfl).front 14 rfl).front 14 rfl).front 14 rfl).front 14 rfl).front 14 rfl).front 14 rfl).front 14 rfl)
  have HA:=Hd (Z0b hn hP (io:=io+4) hio hs)
  have kD5:=H4.out.at_ (i:=3) rfl
  have kR5:=H4.out.at_ (i:=0) rfl
  unfold Zdx at HA
  clear hs H4 kD4 kR4
  go_wp2_with fail
  refine Mo HA ?_
  rintro e w6 ⟨rfl,A6,c6,Q6,OA,oc,log,h6⟩
  have H6:=Hd h6
  clear h6 HA kD5 kR5
  go_wp2
  go_ret
  exact⟨rfl,A6,c6,Q6,OA,oc,log,(((H6.out.drop_ 8).drop_ 8).drop_ 8).drop_ 8⟩
theorem ev_row {w:World}{L:List Zae}{i ec:Nat}{E:Option Addr}{vs:Array Value}(h:Sep w L)(hi:L[i]? =some (Zad 215 6 (.slice E 1 ec) 1 vs.toList))(hvs:vs.size=6):∃ea,E=some ⟨ea,0,none⟩/\∀j,j < 6->w.cell? ⟨ea,j,none⟩=vs[j]? :=by
 have hr:=h.row hi
 rcases hr.2 with⟨_,h2⟩ | ⟨g,cap,cur,hv,_⟩
 ·cases h2
 ·cases hv
  refine⟨g,rfl,fun j hj=> ?_⟩
  have h1:=hr.cells (g:=g) rfl j vs[j] (by simp)
  rw[Addr.add_lit,Nat.zero_add]at h1
  rw[h1]
  simp
theorem gf_ans {w:World}{F:List Zae}{g kb C S M n c k bc z Li St CM JM:Nat}{A B:Option Addr}{Rt log ord out evs:Value}{xs ys:List UInt8}{iw ow un last:Int}(zs:List UInt8)(u:Nat)
  (hn:n=xs.length) (hk:k=ys.length) (hs:n+k<=1000) (hB:∀w',Sep w' F->Zab w' w'.heap.size 1 B k (bs ys)) (hS:Zdy (xs++ys)=(⟨4,1,0,[]⟩,u,0)) (hu:u<=n+k) (hu0:0 < n+k) (hz:(xs++ys).drop u=zs) (hzl:z=zs.length) (hS2:Zdy zs=(Zhh,0,8))
  (h:Sep w (Zaa g 120 (Za7 kb Rt Li St CM JM last log)::Zaa kb 200 (Zaf C S M ord (.slice A n c) out iw ow un true (.pointer none) evs)::Zad 5 1 (.slice A n c) n (bs xs)::F)):
  CA 59 #[.pointer (some ⟨g,0,none⟩),.slice B k bc] w fun e w'=>e=.returned .nilIface/\
   ∃A' c',Sep w' (Zaa g 120 (Za7 kb Rt Li St CM JM last log)::Zaa kb 200 (Zaf C S M ord (.slice A' z c') out iw ow un true (.pointer none) (.slice none 0 0))::Zad 5 1 (.slice A' z c') z (bs zs)::F):=by
 refine Zof ((h.at_ (i:=0) rfl).1 0) ((h.at_ (i:=1) rfl).1 11) ((Zp0 ⟨4,1,0,[]⟩ zs hn hk hs (fun w' hw=>hB w' hw.tail) hS hu hu0 hz hzl hS2
  (fun ord' out' iw' ow' un' began' part' evs' G=>ord'=ord/\out'=out/\iw'=iw/\ow'=ow/\un'=un/\began'=true/\part'=.pointer none/\evs'=.slice none 0 0/\G=Zaa g 120 (Za7 kb Rt Li St CM JM last log)::F) ?_ ((h.front 2 rfl).front 2 rfl)).mono ?_)
 ·intro w1 A1 BA c1 b1 h1
  refine(Ztb (h1.drop_ 2)).mono ?_
  rintro e w' ⟨rfl,h'⟩
  exact⟨rfl,_,_,_,_,_,_,_,_,_,⟨rfl,rfl,rfl,rfl,rfl,rfl,rfl,rfl,rfl⟩,h'⟩
 ·rintro e w' ⟨_,_,_,_,_,_,_,_,_,A',c',rfl,⟨rfl,rfl,rfl,rfl,rfl,rfl,rfl,rfl,rfl⟩,h'⟩
  exact⟨none,0,rfl,A',c',h'.front 2 rfl⟩
theorem gf_wide {w:World}{F:List Zae}{g kb C S M n c k bc z Li St CM JM oc:Nat}{A B OA:Option Addr}{Rt log out evs:Value}{xs ys:List UInt8}{iw un last:Int}(zs:List UInt8)(u:Nat)(ho:Zo2 F OA oc)
  (hn:n=xs.length) (hk:k=ys.length) (hs:n+k<=1000) (hB:∀w',Sep w' F->Zab w' w'.heap.size 1 B k (bs ys)) (hS:Zdy (xs++ys)=(⟨7,0,0,[0,0,0,4]⟩,u,0)) (hu:u<=n+k) (hu0:0 < n+k) (hz:(xs++ys).drop u=zs) (hzl:z=zs.length) (hS2:Zdy zs=(Zhh,0,8))
  (h:Sep w (Zaa g 120 (Za7 kb Rt Li St CM JM last log)::Zaa kb 200 (Zaf C S M (.slice OA 0 oc) (.slice A n c) out iw 1996 un true (.pointer none) evs)::Zad 5 1 (.slice A n c) n (bs xs)::F)):
  CA 59 #[.pointer (some ⟨g,0,none⟩),.slice B k bc] w fun e w'=>e=.returned .nilIface/\
   ∃A' c',Sep w' (Zaa g 120 (Za7 kb Rt Li St CM JM last log)::Zaa kb 200 (Zaf C S M (.slice OA 0 oc) (.slice A' z c') out iw 2000 un true (.pointer none) (.slice none 0 0))::Zad 5 1 (.slice A' z c') z (bs zs)::F):=by
 refine Zof ((h.at_ (i:=0) rfl).1 0) ((h.at_ (i:=1) rfl).1 11) ((Zp0 ⟨7,0,0,[0,0,0,4]⟩ zs hn hk hs (fun w' hw=>hB w' hw.tail) hS hu hu0 hz hzl hS2
  (fun ord' out' iw' ow' un' began' part' evs' G=>ord'=.slice OA 0 oc/\out'=out/\iw'=iw/\ow'=2000/\un'=un/\began'=true/\part'=.pointer none/\evs'=.slice none 0 0/\G=Zaa g 120 (Za7 kb Rt Li St CM JM last log)::F) ?_ ((h.front 2 rfl).front 2 rfl)).mono ?_)
 ·intro w1 A1 BA c1 b1 h1
  refine(Zqv ((ho.cons).cons) ((h1.front 2 rfl).front 1 rfl)).mono ?_
  rintro e w' ⟨rfl,h'⟩
  exact⟨rfl,_,_,_,_,_,_,_,_,_,⟨rfl,rfl,rfl,rfl,rfl,rfl,rfl,rfl,rfl⟩,h'⟩
 ·rintro e w' ⟨_,_,_,_,_,_,_,_,_,A',c',rfl,⟨rfl,rfl,rfl,rfl,rfl,rfl,rfl,rfl,rfl⟩,h'⟩
  exact⟨none,0,rfl,A',c',h'.front 2 rfl⟩
theorem gf_head {w:World}{F:List Zae}{g kb C S M MS gg hh n c k bc z Li St CM JM:Nat}{A B:Option Addr}{Rt log ord out evs:Value}{xs ys:List UInt8}{iw ow un last:Int}(zs:List UInt8)(u:Nat)
  (hn:n=xs.length) (hk:k=ys.length) (hs:n+k<=1000) (hB:∀w',Sep w' F->Zab w' w'.heap.size 1 B k (bs ys)) (hS:Zdy (xs++ys)=(⟨1,4,1,Zoz⟩,u,0)) (hu:u<=n+k) (hu0:0 < n+k) (hz:(xs++ys).drop u=zs) (hzl:z=zs.length) (hS2:Zdy zs=(Zhh,0,8))
  (h:Sep w (Zaa g 120 (Za7 kb Rt Li St CM JM last log)::Zaa kb 200 (Zaf C S M ord (.slice A n c) out iw ow un true (.pointer none) evs)::Zad 5 1 (.slice A n c) n (bs xs)::Zak CM #[] 0::Zak M #[] 0::Zaa S 254 (Zbf MS 0)::Zak MS #[] 0::Zaa C 93 (Zai gg hh)::Zbw hh none 0 [] 4096::F)):
  CA 59 #[.pointer (some ⟨g,0,none⟩),.slice B k bc] w fun e w'=>e=.returned .nilIface/\
   ∃A' c' Y X D dc evs',Sep w' (Zaa g 120 (Za7 kb Rt Li St CM JM last log)::Zaa kb 200 (Zaf C S M ord (.slice A' z c') out iw ow un true (.pointer none) evs')::Zad 5 1 (.slice A' z c') z (bs zs)::Zak CM (Zaw (.pointer (some ⟨Y,0,none⟩))) 1::Zaa Y 146 (Zdl (.slice D 3 dc) (.slice none 0 0))::Zaa X 313 (Zbn 2000 2000 0 (.slice none 0 0) false false)::Zak M (Zaw (.pointer (some ⟨X,0,none⟩))) 1::Zaa S 254 (Zbf MS 1)::Zak MS (Zaw (.int .i64 1)) 1::Zad 41 2 (.slice D 3 dc) 3 (fvs Ziu)::Zaa C 93 (Zai gg hh)::F):=by
 have hg:=(h.at_ (i:=0) rfl).1 0
 have ho:=(h.at_ (i:=1) rfl).1 11
 have h0:=(h.front 2 rfl).front 2 rfl
 refine gf_one (fn:=3) (bn:=0) 1 1 0 false (P:=fun ea fa fc ba bb w'=>ba=none/\bb=0/\∃A' c' X ec,Sep w' (Zaa kb 200 (Zaf C S M ord (.slice A' z c') out iw ow un true (.pointer none) (.slice (some ⟨ea,0,none⟩) 1 ec))::Zad 5 1 (.slice A' z c') z (bs zs)::Zad 215 6 (.slice (some ⟨ea,0,none⟩) 1 ec) 1 (evV 1 1 0 (.slice fa 3 fc) (.slice none 0 0) false).toList::Zaa X 313 (Zbn 2000 2000 0 (.slice none 0 0) false false)::Zak M (Zaw (.pointer (some ⟨X,0,none⟩))) 1::Zaa S 254 (Zbf MS 1)::Zak MS (Zaw (.int .i64 1)) 1::Zad 41 2 (.slice fa 3 fc) 3 (fvs Ziu)::Zaa C 93 (Zai gg hh)::Zaa g 120 (Za7 kb Rt Li St CM JM last log)::Zak CM #[] 0::F)) hg ho ((Zp0 ⟨1,4,1,Zoz⟩ zs hn hk hs (fun w' hw=>hB w' hw.tail.tail.tail.tail.tail.tail.tail) hS hu hu0 hz hzl hS2
  (fun ord' out' iw' ow' un' began' part' evs' G=>∃X D dc E ec,ord'=ord/\out'=out/\iw'=iw/\ow'=ow/\un'=un/\began'=true/\part'=.pointer none/\evs'=.slice E 1 ec/\G=Zad 215 6 (.slice E 1 ec) 1 (evV 1 1 0 (.slice D 3 dc) (.slice none 0 0) false).toList::Zaa X 313 (Zbn 2000 2000 0 (.slice none 0 0) false false)::Zak M (Zaw (.pointer (some ⟨X,0,none⟩))) 1::Zaa S 254 (Zbf MS 1)::Zak MS (Zaw (.int .i64 1)) 1::Zad 41 2 (.slice D 3 dc) 3 (fvs Ziu)::Zaa C 93 (Zai gg hh)::Zaa g 120 (Za7 kb Rt Li St CM JM last log)::Zak CM #[] 0::F) ?_ h0).mono ?_) ?_
 ·intro w1 A1 BA c1 b1 h1
  have h2:=(((((((h1.front 9 rfl).front 9 rfl).front 9 rfl).front 9 rfl).front 9 rfl).front 5 rfl).front 7 rfl)
  refine(Zqw h2).mono ?_
  rintro e w' ⟨rfl,X,D,dc,E,ec,h'⟩
  exact⟨rfl,_,_,_,_,_,_,_,_,_,⟨X,D,dc,E,ec,rfl,rfl,rfl,rfl,rfl,rfl,rfl,rfl,rfl⟩,((h'.front 8 rfl).front 1 rfl)⟩
 ·rintro e w' ⟨_,_,_,_,_,_,_,_,_,A',c',rfl,⟨X,D,dc,E,ec,rfl,rfl,rfl,rfl,rfl,rfl,rfl,rfl,rfl⟩,h'⟩
  obtain⟨ea,rfl,hcl⟩:=ev_row h' (i:=2) rfl rfl
  exact⟨ea,ec,D,dc,none,0,rfl,hcl,rfl,rfl,A',c',X,ec,h'⟩
 ·rintro ea fa fc ba bb w1 ⟨rfl,rfl,A',c',X,ec,h1⟩
  have h2:=(((h1.newBlk 215 (evV 1 1 0 (.slice fa 3 fc) (.slice none 0 0) false)).front 11 rfl).front 11 rfl)
  refine(ge_asked h2).mono ?_
  rintro e w' ⟨rfl,Y,h'⟩
  exact⟨rfl,A',c',Y,X,fa,fc,_,((((((h'.drop_ 3).drop_ 5).front 2 rfl).front 4 rfl).front 4 rfl).front 4 rfl)⟩
theorem gf_data {w w0:World}{F:List Zae}{io g kb C S M MS X Y n c k bc z Li LM LM' St CM JM fc rc:Nat}{A B FA RA:Option Addr}{log ord out evs:Value}{xs ys:List UInt8}{ow:Int}(zs:List UInt8)(u:Nat)(hP:Pow w0)(hio:F[io]? =some (Zel w0))
  (hn:n=xs.length) (hk:k=ys.length) (hs:n+k<=1000) (hB:∀w',Sep w' F->Zab w' w'.heap.size 1 B k (bs ys)) (hS:Zdy (xs++ys)=(⟨0,1,1,[120]⟩,u,0)) (hu:u<=n+k) (hu0:0 < n+k) (hz:(xs++ys).drop u=zs) (hzl:z=zs.length) (hS2:Zdy zs=(Zhh,0,8))
  (h:Sep w (Zaa g 120 (Za7 kb (.slice RA 1 rc) Li St CM JM 0 log)::Zaa kb 200 (Zaf C S M ord (.slice A n c) out 2000 ow 0 true (.pointer none) evs)::Zad 5 1 (.slice A n c) n (bs xs)::Zak CM (Zaw (.pointer (some ⟨Y,0,none⟩))) 1::Zaa Y 146 (Zdl (.slice FA 3 fc) (.slice none 0 0))::Zaa X 313 (Zbn 2000 2000 0 (.slice none 0 0) false false)::Zak M (Zaw (.pointer (some ⟨X,0,none⟩))) 1::Zaa S 254 (Zbf MS 1)::Zak MS (Zaw (.int .i64 1)) 1::Zad 41 2 (.slice FA 3 fc) 3 (fvs Ziu)::Zaa Li 193 #[.int .i64 10,.int .i64 10,.map (some LM),.map (some LM')]::Zak LM' #[] 0::Zak LM #[] 0::Zaa St 203 #[.slice none 0 0]::Zad 47 3 (.slice RA 1 rc) 1 rtV::Zak JM #[] 0::F)):
  CA 59 #[.pointer (some ⟨g,0,none⟩),.slice B k bc] w fun e w'=>e=.returned .nilIface/\
   ∃A' c' fa fc' ba bc' ad jc D dc evs',Sep w' (Zaa g 120 (Za7 kb (.slice RA 1 rc) Li St CM JM 1 log)::Zaa kb 200 (Zaf C S M ord (.slice A' z c') out 1999 ow 0 true (.pointer none) evs')::Zad 5 1 (.slice A' z c') z (bs zs)::Zak CM (Zaw (.pointer (some ⟨Y,0,none⟩))) 1::Zaa Y 146 (Zd0 (.slice FA 3 fc) (.slice D 1 dc) (.string ⟨#[80,79,83,84]⟩) (.string ⟨#[47,112]⟩) (.string ⟨#[104]⟩) (.slice fa 0 fc') (.slice ba 1 bc') 0)::Zak JM (Zaw (.agg #[.int .i64 1,.string ⟨#[97,108,108]⟩,.slice (some ad) 39 jc])) 1::Zir ad Zf1::Zak M (Zaw (.pointer (some ⟨X,0,none⟩))) 1::Zaa X 313 (Zbn 1999 2000 0 (.slice none 0 0) false false)::Zaa S 254 (Zbf MS 1)::Zak MS (Zaw (.int .i64 2)) 1::F):=by
 have hg:=(h.at_ (i:=0) rfl).1 0
 have ho:=(h.at_ (i:=1) rfl).1 11
 have h0:=(h.front 2 rfl).front 2 rfl
 refine gf_one (fn:=0) (bn:=1) 2 1 0 true (P:=fun ea fa' fc'' ba' bb w'=>fa'=none/\fc''=0/\∃A' c' ec,Sep w' (Zaa kb 200 (Zaf C S M ord (.slice A' z c') out 1999 ow 1 true (.pointer none) (.slice (some ⟨ea,0,none⟩) 1 ec))::Zad 5 1 (.slice A' z c') z (bs zs)::Zad 215 6 (.slice (some ⟨ea,0,none⟩) 1 ec) 1 (evV 2 1 0 (.slice none 0 0) (.slice ba' 1 bb) true).toList::Zad 5 1 (.slice ba' 1 bb) 1 (bs [120])::Zak M (Zaw (.pointer (some ⟨X,0,none⟩))) 1::Zaa X 313 (Zbn 1999 2000 1 (.slice none 0 0) false false)::Zaa S 254 (Zbf MS 1)::Zak MS (Zaw (.int .i64 2)) 1::Zaa g 120 (Za7 kb (.slice RA 1 rc) Li St CM JM 0 log)::Zak CM (Zaw (.pointer (some ⟨Y,0,none⟩))) 1::Zaa Y 146 (Zdl (.slice FA 3 fc) (.slice none 0 0))::Zad 41 2 (.slice FA 3 fc) 3 (fvs Ziu)::Zaa Li 193 #[.int .i64 10,.int .i64 10,.map (some LM),.map (some LM')]::Zak LM' #[] 0::Zak LM #[] 0::Zaa St 203 #[.slice none 0 0]::Zad 47 3 (.slice RA 1 rc) 1 rtV::Zak JM #[] 0::F)) hg ho ((Zp0 ⟨0,1,1,[120]⟩ zs hn hk hs (fun w' hw=>hB w' hw.tail.tail.tail.tail.tail.tail.tail.tail.tail.tail.tail.tail.tail.tail) hS hu hu0 hz hzl hS2
  (fun ord' out' iw' ow' un' began' part' evs' G=>∃E ec BA bb,ord'=ord/\out'=out/\iw'=1999/\ow'=ow/\un'=1/\began'=true/\part'=.pointer none/\evs'=.slice E 1 ec/\G=Zad 215 6 (.slice E 1 ec) 1 (evV 2 1 0 (.slice none 0 0) (.slice BA 1 bb) true).toList::Zad 5 1 (.slice BA 1 bb) 1 (bs [120])::Zak M (Zaw (.pointer (some ⟨X,0,none⟩))) 1::Zaa X 313 (Zbn 1999 2000 1 (.slice none 0 0) false false)::Zaa S 254 (Zbf MS 1)::Zak MS (Zaw (.int .i64 2)) 1::Zaa g 120 (Za7 kb (.slice RA 1 rc) Li St CM JM 0 log)::Zak CM (Zaw (.pointer (some ⟨Y,0,none⟩))) 1::Zaa Y 146 (Zdl (.slice FA 3 fc) (.slice none 0 0))::Zad 41 2 (.slice FA 3 fc) 3 (fvs Ziu)::Zaa Li 193 #[.int .i64 10,.int .i64 10,.map (some LM),.map (some LM')]::Zak LM' #[] 0::Zak LM #[] 0::Zaa St 203 #[.slice none 0 0]::Zad 47 3 (.slice RA 1 rc) 1 rtV::Zak JM #[] 0::F) ?_ h0).mono ?_) ?_
 ·intro w1 A1 BA c1 b1 h1
  have h2:=((((((h1.front 9 rfl).front 9 rfl).front 8 rfl).front 9 rfl).front 4 rfl).front 6 rfl)
  refine(Zqx h2).mono ?_
  rintro e w' ⟨rfl,E,ec,h'⟩
  exact⟨rfl,_,_,_,_,_,_,_,_,_,⟨E,ec,BA,b1,rfl,rfl,rfl,rfl,rfl,rfl,rfl,rfl,rfl⟩,((h'.front 7 rfl).front 1 rfl)⟩
 ·rintro e w' ⟨_,_,_,_,_,_,_,_,_,A',c',rfl,⟨E,ec,BA,bb,rfl,rfl,rfl,rfl,rfl,rfl,rfl,rfl,rfl⟩,h'⟩
  obtain⟨ea,rfl,hcl⟩:=ev_row h' (i:=2) rfl rfl
  exact⟨ea,ec,none,0,BA,bb,rfl,hcl,rfl,rfl,A',c',ec,h'⟩
 ·rintro ea fa' fc'' ba' bb w1 ⟨rfl,rfl,A',c',ec,h1⟩
  have h2:=(((((((((((((((((h1.newBlk 215 (evV 2 1 0 (.slice none 0 0) (.slice ba' 1 bb) true)).front 4 rfl).front 8 rfl).front 8 rfl).front 8 rfl).front 8 rfl).front 6 rfl).front 18 rfl).front 18 rfl).front 18 rfl).front 18 rfl).front 18 rfl).front 18 rfl).front 18 rfl).front 18 rfl).front 18 rfl).front 18 rfl)
  refine(ge_came hP (io:=io+3) hio h2).mono ?_
  rintro e w' ⟨rfl,fa,fc',ba,bc',ad,jc,D,dc,h'⟩
  exact⟨rfl,A',c',fa,fc',ba,bc',ad,jc,D,dc,_,(((((h'.drop_ 10).drop_ 11).front 10 rfl).front 6 rfl).front 2 rfl)⟩
theorem fd_ans {w:World}{F:List Zae}{ib b c g kb C S M Li St CM JM c0:Nat}{A0:Option Addr}{Rt log ord out evs:Value}{iw ow un last:Int}(hi:F[ib]? =some (Zad 5 1 (.slice (some ⟨b,0,none⟩) 9 c) 9 (bs Zf5)))
  (h:Sep w (Zaa g 120 (Za7 kb Rt Li St CM JM last log)::Zaa kb 200 (Zaf C S M ord (.slice A0 0 c0) out iw ow un true (.pointer none) evs)::Zad 5 1 (.slice A0 0 c0) 0 []::F)):
  CA 17 #[.pointer (some ⟨g,0,none⟩),.slice (some ⟨b,0,none⟩) 9 c,.int .i64 7] w fun e w'=>e=.returned (.bool true)/\∃A' c',Sep w' (Zaa g 120 (Za7 kb Rt Li St CM JM last log)::Zaa kb 200 (Zaf C S M ord (.slice A' 0 c') out iw ow un true (.pointer none) (.slice none 0 0))::Zad 5 1 (.slice A' 0 c') 0 []::F):=by
 have hc:=h.cap (i:=ib+3) hi
 have H:=Hd (Zev (n:=0) (k:=7) (bc:=c) (xs:=[]) (ys:=[0,0,0,4,1,0,0]) rfl rfl (by decide) (Za4 hi 0 7 _ rfl (by decide) (by decide)) (by kernel_rfl) h)
 have hc7:¬(c=7):=by omega
 have hc7':7<=c:=by omega
 clear h
 go_enter func17,ntmps17
 go_wp2_with fail
 refine wp_loop_rounds 3 ?_
 rw[rounds_succ]
 go_wp2_with fail
 refine Mo H ?_
 rintro e w1 ⟨rfl,A1,c1,h1⟩
 have H1:=Hd (fun bc=>gf_ans (n:=7) (k:=2) (bc:=bc) (xs:=[0,0,0,4,1,0,0]) (ys:=[0,0]) [] 9 rfl rfl (by decide) (Za4 hi 7 2 _ rfl (by decide) (by decide)) (by kernel_rfl) (by decide) (by decide) rfl (z:=0) rfl (by kernel_rfl) h1)
 clear h1 H
 go_wp2_with fail
 rw[rounds_succ]
 go_wp2_with fail
 refine(show Calls _ _ _ _ _ from H1.out _).mono ?_
 rintro e w2 ⟨rfl,A2,c2,h2⟩
 have H2:=Hd h2
 clear h2 H1
 go_wp2_with fail
 all_goals
  rw[rounds_succ]
  go_wp2
  go_ret
  exact⟨rfl,A2,c2,H2.out⟩
theorem Zqz {w:World}{F:List Zae}{kb C M X gg hh mc bc:Nat}{BA:Option Addr}{ord inn out part q:Value}{win last nw:Int}{ends:Bool}
  (h:Sep w (Zad 5 1 (.slice BA 4 bc) 4 (bs Zic)::Zaa kb 126 (Zau C M ord inn out win last part 0 ends)::Zak M (Zaw (.pointer (some ⟨X,0,none⟩))) mc::Zaa X 130 (Zay nw q false (.slice none 0 0) false (.slice none 0 0) false)::Zaa C 93 (Zai gg hh)::Zbw hh none 0 [] 4096::F)):
  CA 171 #[.pointer (some ⟨kb,0,none⟩),.agg #[.int .i64 1,.int .i64 4,.int .i64 1,.slice BA 4 bc]] w fun e w'=>e=.returned (.bool true)/\∃D dc P,Sep w' (Zaa kb 126 (Zau C M ord inn out win last P 0 false)::Zak M (Zaw (.pointer (some ⟨X,0,none⟩))) mc::
   Zaa X 130 (Zay nw q false (.slice D 2 dc) true (.slice none 0 0) false)::Zad 41 2 (.slice D 2 dc) 2 (fvs Zn2)::F):=by
 have h1:=h.newBlk 134 #[.int .i64 1,.int .i64 4,.int .i64 1,.slice BA 4 bc]
 have kX:=h1.at_ (i:=0) rfl
 have kK:=h1.at_ (i:=2) rfl
 have H1:=Hd h1
 unfold Zau at kK
 clear h h1
 go_enter func171,ntmps171
 go_wp2
 go_quiet (fail)
 obtain⟨w2,hw2⟩:=exl ((w.alloc (.cells #[.int .i64 1,.int .i64 4,.int .i64 1,.slice BA 4 bc] 134)).drewN nq)
 have h2:=H1.out.drewN nq
 rw[hw2]at h2⊢
 clear kX kK H1 hw2
 have kX:=h2.at_ (i:=0) rfl
 have kK:=h2.at_ (i:=2) rfl
 have H2:=Hd h2
 unfold Zau at kK
 clear h2
 go_wp2_with (first
  | (go_at_call 213;refine(Zot 1 4 BA 4 bc (.inr rfl) w2).mono ?_;rintro e w3 ⟨rfl,hb3⟩;have h3:=H2.out.below hb3;have kX3:=h3.at_ (i:=0) rfl;have kK3:=h3.at_ (i:=2) rfl;have H3:=Hd h3;unfold Zau at kK3;clear h3 hb3 kX kK)
  | (go_at_call 245;refine(Z09 (w:=w3) H3.out.tail).mono ?_;rintro e w4 ⟨rfl,D,dc,P,h4⟩;have H4:=Hd h4;clear h4))
 go_ret
 exact⟨rfl,D,dc,P,H4.out⟩
theorem Zq0 {w:World}{F:List Zae}{kb C M X n c mc bc:Nat}{A BA:Option Addr}{ord inn part q rep:Value}{xs:List UInt8}{win last nw:Int}{ends:Bool}(hn:n<=1000)
  (h:Sep w (Zad 5 1 (.slice BA 4 bc) 4 (bs Zb6)::Zaa kb 126 (Zau C M ord inn (.slice A n c) win last part 0 ends)::Zad 5 1 (.slice A n c) n (bs xs)::Zak M (Zaw (.pointer (some ⟨X,0,none⟩))) mc::Zaa X 130 (Zay nw q false rep true (.slice none 0 0) false)::F)):
  CA 171 #[.pointer (some ⟨kb,0,none⟩),.agg #[.int .i64 0,.int .i64 1,.int .i64 1,.slice BA 4 bc]] w fun e w'=>e=.returned (.bool true)/\∃A' c' D dc,Sep w' (Zaa kb 126 (Zau C M ord inn (.slice A' (n+13) c') win last part 0 ends)::Zad 5 1 (.slice A' (n+13) c') (n+13) (bs (xs++Zrn))::
   Zak M (Zaw (.pointer (some ⟨X,0,none⟩))) mc::Zaa X 130 (Zay nw q false rep true (.slice D 4 dc) true)::Zad 5 1 (.slice D 4 dc) 4 (bs Zb6)::F):=by
 have h1:=h.newBlk 134 #[.int .i64 0,.int .i64 1,.int .i64 1,.slice BA 4 bc]
 have kX:=h1.at_ (i:=0) rfl
 have kK:=h1.at_ (i:=2) rfl
 have H1:=Hd h1
 unfold Zau at kK
 clear h h1
 go_enter func171,ntmps171
 go_wp2
 go_quiet (fail)
 obtain⟨w2,hw2⟩:=exl ((w.alloc (.cells #[.int .i64 0,.int .i64 1,.int .i64 1,.slice BA 4 bc] 134)).drewN nq)
 have h2:=H1.out.drewN nq
 rw[hw2]at h2⊢
 clear kX kK H1 hw2
 have kX:=h2.at_ (i:=0) rfl
 have kK:=h2.at_ (i:=2) rfl
 have H2:=Hd h2
 unfold Zau at kK
 clear h2
 go_wp2_with (first
  | (go_at_call 213;refine(Zot 0 1 BA 4 bc (.inl rfl) w2).mono ?_;rintro e w3 ⟨rfl,hb3⟩;have h3:=H2.out.below hb3;have kX3:=h3.at_ (i:=0) rfl;have kK3:=h3.at_ (i:=2) rfl;have H3:=Hd h3;unfold Zau at kK3;clear h3 hb3 kX kK)
  | (go_at_call 246;refine(cl_data (w:=w3) hn H3.out.tail).mono ?_;rintro e w4 ⟨rfl,A4,c4,D,dc,h4⟩;have H4:=Hd h4;clear h4))
 go_ret
 exact⟨rfl,A4,c4,D,dc,H4.out⟩
end
end Go.Proofs.YtbgnggkgmeagkaaGreatDoor
