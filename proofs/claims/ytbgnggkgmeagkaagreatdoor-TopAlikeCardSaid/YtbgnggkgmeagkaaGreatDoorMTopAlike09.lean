/-
  A part of the proof of TopAlike: each theorem states its own conditions.
-/
import Derived.Test.YtbgnggkgmeagkaaGreatDoorMTopAlikeHenc2
set_option linter.unusedSimpArgs false
set_option linter.unusedVariables false
set_option maxRecDepth 100000
set_option maxHeartbeats 16000000
namespace Go.Proofs.YtbgnggkgmeagkaaGreatDoor
open Go.Proofs.Tryz
section
open Go.RowKit
variable {qq:Value×Value}
attribute [local go_sem ↓] Go.wp_at_zero Go.wp_at_succ
theorem Zn3 {xs:List Fld}{mx:Nat}{l:List Fld}{f:Fld}{n:Nat}(h:(Zkz xs mx l f n).e=0):Za2 (l++[f])=false/\Zkz xs mx l f n=⟨0,xs,mx,l++[f],n⟩:=by
 unfold Zkz at h⊢
 cases hT:Za2 (l++[f])with
 | true=>simp[hT]at h
 | false=>simp
theorem Zz1 {most:Nat}{xs:List Fld}{mx:Nat}{l:List Fld}{b:List UInt8}(h:(Za5 most xs mx l b).e=0)(h1:128<=(b.headD 0).toNat):
  ∃k U,Zbi b 7=(k+1,U,0)/\k < 12+xs.length/\Za2 (l++[(Zb9 xs).getD k ([],[])])=false/\Za5 most xs mx l b=⟨0,xs,mx,l++[(Zb9 xs).getD k ([],[])],U⟩:=by
 obtain⟨N,U,E,hg⟩:∃N U E,Zbi b 7=(N,U,E):=⟨_,_,_,rfl⟩
 unfold Za5 at h⊢
 simp only[if_pos h1,hg]at h⊢
 by_cases e1:E≠0
 ·rw[if_pos e1]at h
  exact absurd h e1
 rw[if_neg e1]at h⊢
 by_cases e2:N < 1∨12+xs.length < N
 ·rw[if_pos e2]at h
  simp at h
 rw[if_neg e2]at h⊢
 obtain⟨k,rfl⟩:∃k,N=k+1:=⟨N-1,by omega⟩
 obtain⟨p1,p2⟩:=Zn3 h
 exact⟨k,U,by rw[Decidable.not_not.1 e1],by omega,p1,p2⟩
theorem Zwn {most:Nat}{xs:List Fld}{mx:Nat}{l:List Fld}{b:List UInt8}(h:(Za5 most xs mx l b).e=0)(h1:¬128<=(b.headD 0).toNat)(h2:64<=(b.headD 0).toNat):
  ∃f U,Zj6 xs b 6=(f,U,0)/\Za2 (l++[f])=false/\Za5 most xs mx l b=⟨0,Zrs mx xs f,mx,l++[f],U⟩:=by
 obtain⟨f,U,E,hg⟩:∃f U E,Zj6 xs b 6=(f,U,E):=⟨_,_,_,rfl⟩
 unfold Za5 at h⊢
 simp only[if_neg h1,if_pos h2,hg]at h⊢
 by_cases e1:E≠0
 ·rw[if_pos e1]at h
  exact absurd h e1
 rw[if_neg e1]at h⊢
 obtain⟨p1,p2⟩:=Zn3 h
 exact⟨f,U,by rw[Decidable.not_not.1 e1],p1,p2⟩
theorem Zwo {most:Nat}{xs:List Fld}{mx:Nat}{l:List Fld}{b:List UInt8}(h:(Za5 most xs mx l b).e=0)(h1:¬128<=(b.headD 0).toNat)(h2:¬64<=(b.headD 0).toNat)(h3:¬32<=(b.headD 0).toNat):
  ∃f U,Zj6 xs b 4=(f,U,0)/\Za2 (l++[f])=false/\Za5 most xs mx l b=⟨0,xs,mx,l++[f],U⟩:=by
 obtain⟨f,U,E,hg⟩:∃f U E,Zj6 xs b 4=(f,U,E):=⟨_,_,_,rfl⟩
 unfold Za5 at h⊢
 simp only[if_neg h1,if_neg h2,if_neg h3,hg]at h⊢
 by_cases e1:E≠0
 ·rw[if_pos e1]at h
  exact absurd h e1
 rw[if_neg e1]at h⊢
 obtain⟨p1,p2⟩:=Zn3 h
 exact⟨f,U,by rw[Decidable.not_not.1 e1],p1,p2⟩
theorem Zsm {most:Nat}{xs:List Fld}{mx:Nat}{l:List Fld}{b:List UInt8}(h:(Za5 most xs mx l b).e=0)(h1:¬128<=(b.headD 0).toNat)(h2:¬64<=(b.headD 0).toNat)(h3:32<=(b.headD 0).toNat):
  ∃N U,Zbi b 5=(N,U,0)/\N<=most/\l=[]/\Za5 most xs mx l b=⟨0,shr N xs,N,l,U⟩:=by
 obtain⟨N,U,E,hg⟩:∃N U E,Zbi b 5=(N,U,E):=⟨_,_,_,rfl⟩
 unfold Za5 at h⊢
 simp only[if_neg h1,if_neg h2,if_pos h3,hg]at h⊢
 by_cases e1:E≠0
 ·rw[if_pos e1]at h
  exact absurd h e1
 rw[if_neg e1]at h⊢
 by_cases e2:most < N
 ·rw[if_pos e2]at h
  simp at h
 rw[if_neg e2]at h⊢
 by_cases e3:0 < l.length
 ·rw[if_pos e3]at h
  simp at h
 rw[if_neg e3]
 exact⟨N,U,by rw[Decidable.not_not.1 e1],by omega,List.eq_nil_of_length_eq_zero (by omega),rfl⟩
theorem heard_go {most:Nat}{xs:List Fld}{mx:Nat}{l:List Fld}{b:List UInt8}{r:Step}(hb:b≠[])(h:heard most xs mx l b=r)(hr:r.e=0):(Za5 most xs mx l b).e=0/\heard most (Za5 most xs mx l b).xs (Za5 most xs mx l b).mx (Za5 most xs mx l b).l (b.drop (Za5 most xs mx l b).n)=r/\1<=(Za5 most xs mx l b).n/\(Za5 most xs mx l b).n<=b.length:=by
 have h0:(Za5 most xs mx l b).e=0:=by
  rcases Nat.eq_zero_or_pos (Za5 most xs mx l b).e with h0 | h0
  ·exact h0
  ·have h1:=Zsl (most:=most) (xs:=xs) (mx:=mx) (l:=l) hb (by omega)
   rw[h1]at h
   rw[h]
   exact hr
 have hu:=Zk7 h0
 rw[Zm0 hb h0]at h
 exact⟨h0,h,hu.1,hu.2⟩
theorem Zfj {l:List Fld}(h:Za2 l=false):(∀f∈l,fOk f)/\l.length<=40:=by
 simp only[Za2,Bool.or_eq_false_iff,decide_eq_false_iff_not]at h
 refine⟨fun f hf=> ?_,by omega⟩
 have h1:∀(l:List Fld),f∈l->fsz f<=wt l:=by
  intro l
  induction l with
  | nil=>intro h;cases h
  | cons x l ih=>
   intro hm
   rw[Zrk]
   rcases List.mem_cons.1 hm with rfl | hm
   ·omega
   ·have:=ih hm
    omega
 have h2:=h1 l hf
 unfold fsz at h2
 constructor <;> omega
theorem Zsr (W:World)(f:Fld):Zab (W.alloc (.cells #[.string ⟨f.1.toArray⟩,.string ⟨f.2.toArray⟩] 41)) (W.heap.size+1) 2 (some ⟨W.heap.size,0,none⟩) 1 [.string ⟨f.1.toArray⟩,.string ⟨f.2.toArray⟩]:=by
 refine⟨rfl,fun _=>⟨_,rfl,Nat.lt_succ_self _,fun j u hu=> ?_⟩⟩
 have h:=(Blk.new W 41 #[.string ⟨f.1.toArray⟩,.string ⟨f.2.toArray⟩]).cell j
 rw[Addr.add_lit,Nat.zero_add,h]
 simpa using hu
theorem Zss (f:Fld):∀u∈[Value.string ⟨f.1.toArray⟩,.string ⟨f.2.toArray⟩],u.oneCell'=true:=by
 intro u hu
 simp only[List.mem_cons,List.not_mem_nil,or_false]at hu
 rcases hu with rfl | rfl <;> rfl
def Zvg (w w':World)(C h:Nat)(A:Option Addr)(ys':List Fld)(my' most:Nat)(qq:Value×Value)(v:Value):Prop:=
 ∃A' c',CIn w' C h A' c' ys' my' most false qq/\Zax (Zmb C h A) w w'/\(∀k,Zmb C h A' k->Zmb C h A k∨w.heap.size<=k)/\∀k,v.ownBlock=some k->¬Zmb C h A' k
theorem cdec_ok {w:World}{C h:Nat}{A:Option Addr}{c:Nat}{ys:List Fld}{my most:Nat}(H:CIn w C h A c ys my most false qq)(hmost:most<=4096)(b:List UInt8)(LA:Option Addr)(n lc:Nat)(hn:n=b.length)(hcap:b.length<=lc)(hm:b.length<=140737488355328)(B:Nat)(hB:B < w.heap.size)(hBl:¬Zmb C h A B)(hr:Zab w w.heap.size 1 LA b.length (bs b))(hLA:∀ad,LA=some ad->ad.block=B)
  (ys':List Fld) (my':Nat) (L:List Fld) (hH:heard most ys my [] b=⟨0,ys',my',L,0⟩):
  CA 45 #[.pointer (some ⟨C,0,none⟩),.slice LA n lc] w fun e w'=>∃A2 n2 c2,e=.returned (.tuple #[.slice A2 n2 c2,.nilIface])/\n2=L.length/\w'.ownsRow w.heap.size 41 2 (.slice A2 n2 c2) n2 (fvs L)/\Zvg w w' C h A ys' my' most qq (.slice A2 n2 c2):=by
 subst hn
 obtain⟨R,hR⟩:=exl (w.heap.size)
 obtain⟨W0,hW0⟩:=exl (w.alloc (.cells #[.slice LA b.length lc,.nilIface] 180))
 have hD0:DAt w W0 C h A A c R B b ys my most (.slice none 0 0) [] qq:=by
  have hb0:Below w.heap.size w W0:=by rw[<-hW0];exact(Below.refl _ _).alloc (Nat.le_refl _) _
  refine⟨⟨LA,lc,by rw[<-hW0,<-hR];exact Blk.new w _ _,hcap,(hr.below hb0).more hb0.size,hLA⟩,H.below hb0,fun k hk=> .inl hk,fun e=> ?_,fun k hk=>by simp[Value.ownBlock]at hk,World.ownsRow_nil _ _ _ _,Zax.of_below hb0,by omega,hB,hBl⟩
  have:=H.lt R e
  omega
 have HR:=Hd hR
 have HW0:=Hd hW0
 have HD0:=Hd hD0
 have HH:=Hd hH
 obtain⟨i0,hi,hz0,hz1,hz2⟩:=info_parts Zdm
 have HI:=Hd hi
 have HZ0:=Hd hz0
 have HZ1:=Hd hz1
 have HZ2:=Hd hz2
 clear hR hW0 hD0 hH H hr hBl hi hz0 hz1 hz2 hLA
 go_enter func45,ntmps45
 go_wp2_with fail
 rw[HW0.out,HR.out]
 go_loopg [4] b.length (fun n v wr=>∃bk yk mk acc A' c',Hid (bk.length=n)/\bk.length<=140737488355328/\Hid (DAt w wr C h A A' c' R B bk yk mk most v acc qq)/\Hid (heard most yk mk acc bk=⟨0,ys',my',L,0⟩))
 case atStart=>exact⟨b,ys,my,[],A,c,rfl,hm,HD0.out,HH.out⟩
 case round=>
  obtain⟨bk,yk,mk,acc,A',c',HLEN,hbm,HD,HHk⟩:=hrel
  obtain⟨⟨ra,rc,r0,rbF⟩,r1,f1,rl,d1,d2,dl⟩:=HD.out.cells
  rcases Nat.eq_zero_or_pos bk.length with h0 | h0
  ·have hb0:bk=[]:=List.eq_nil_of_length_eq_zero h0
   subst hb0
   have hh:=HHk.out
   rw[Zqa]at hh
   simp only[Step.mk.injEq,true_and,and_true]at hh
   obtain⟨rfl,rfl,rfl⟩:=hh
   obtain⟨VA,vc,hv⟩:=Zas HD.out.row
   have hrow:=HD.out.row
   rw[hv]at hrow
   have HRW:=Hd hrow
   have HDN:=Hd (show Zvg w wr C h A yk mk most qq (.slice VA _ vc)from⟨A',c',HD.out.ci,HD.out.kp,HD.out.fr,fun k hk=>HD.out.nv k (by rw[hv];exact hk)⟩)
   clear hrow rbF h0
   subst hv
   go_wp2
   go_ret2
   exact⟨VA,_,vc,rfl,rfl,HRW.out,HDN.out⟩
  ·obtain⟨bb,off,rfl,rb⟩:=rbF h0
   clear rbF
   have hne:bk≠[]:=fun e=>by rw[e]at h0;simp at h0
   have HGO:=Hd (heard_go hne HHk.out rfl)
   have h0i:(0:Int) < ((bk.length:Nat):Int):=by omega
   have hF:=HD.out.fld (.string ⟨#[]⟩) (.string ⟨#[]⟩)
   obtain⟨F,hFF⟩:=exl (wr.heap.size)
   obtain⟨W1,hW1⟩:=exl (wr.alloc (.cells #[.string ⟨#[]⟩,.string ⟨#[]⟩] 41))
   rw[hFF,hW1]at hF
   have HF:=Hd hF
   have HW1:=Hd hW1
   have HFF:=Hd hFF
   clear hF hW1 hFF
   go_upto_region 4 with fail
   rw[HW1.out,HFF.out]
   clear r0 r1 f1 rl rb d1 d2 dl HW1 HFF
   obtain⟨⟨ra,rc',r0,rbF⟩,r1,f1,rl,d1,d2,dl⟩:=HF.out.d.cells
   obtain⟨bb',off',rfl,rb⟩:=rbF h0
   clear rbF
   obtain⟨y0,hy0⟩:=exl ((bk.headD 0).toNat)
   rw[hy0]at rb
   have HY0:=Hd hy0
   clear hy0
   go_upto_region 6 with fail
   by_cases h128:128<=y0
   ·have i1:(128:Int)<=((y0:Nat):Int):=by omega
    have i2:=decide_eq_true i1
    have i3:=decide_eq_true h128
    go_upto_region 7 with fail
    obtain⟨k,U,hg,hk,htm,hS⟩:=Zz1 HGO.out.1 (by rw[HY0.out];exact h128)
    have hgo2:=HGO.out
    rw[hS]at hgo2
    obtain⟨-,hnx,hU1,hU2⟩:=hgo2
    simp only at hnx hU1 hU2
    obtain⟨f,hf⟩:=exl ((Zb9 yk).getD k ([],[]))
    rw[hf]at htm hnx
    have HFk:=Hd hf
    have HG:=Hd hg
    have HNX:=Hd hnx
    have HTM:=Hd htm
    clear hS hg hf hnx htm r0 rb d2 i1 i2 i3 h0i h0
    go_wp2_with fail
    refine(Zn0 HF.out.d.rd HF.out.d.bR hbm 7 (k+1) U HG.out).mono ?_
    rintro e w2 ⟨rfl,hr2,hk2⟩
    have h2:=HF.out.read hr2 hk2
    clear r1 f1 rl d1 dl
    obtain⟨-,r1,f1,rl,d1,d2,dl⟩:=h2.d.cells
    have H2:=Hd h2
    clear h2 hr2 hk2
    go_wp2_with fail
    refine(Zz9 H2.out.d.ci.tab k hk f HFk.out).mono ?_
    rintro e w3 ⟨rfl,hb3⟩
    have h3:=H2.out.next hb3
    clear r1 f1 rl d1 d2 dl
    obtain⟨-,r1,f1,rl,d1,d2,dl⟩:=h3.d.cells
    obtain⟨c0,c1,g0,g1,cF⟩:=h3.cells
    have rne:=h3.fR
    have H4:=Hd (h3.put (.string ⟨f.1.toArray⟩) (.string ⟨f.2.toArray⟩)).noErr
    clear h3 hb3
    go_upto_region 23 with fail
    obtain⟨W4,hW4⟩:=exl (((w3.setCell ⟨F,0,none⟩ (.string ⟨f.1.toArray⟩)).setCell ⟨F,1,none⟩ (.string ⟨f.2.toArray⟩)).setCell ⟨R,1,none⟩ .nilIface)
    rw[hW4]
    have H4:=Hd (show DFt w W4 C h A A' c' R B (bk.drop U) yk mk most u4 acc F (.string ⟨f.1.toArray⟩) (.string ⟨f.2.toArray⟩) qq by rw[<-hW4];exact H4.out)
    clear hW4 r1 f1 rl d1 d2 dl c0 c1 g0 g1 cF rne
    have hnx:=HNX.out
    have htm:=HTM.out
    obtain⟨-,r1,f1,rl,d1,d2,dl⟩:=H4.out.d.cells
    obtain⟨c0,c1,-,-,cF⟩:=H4.out.cells
    obtain⟨hfo,hl40⟩:=Zfj htm
    have hla:acc.length+1<=40:=by rw[List.length_append]at hl40;exact hl40
    have hTA:Zab (W4.alloc (.cells #[.string ⟨f.1.toArray⟩,.string ⟨f.2.toArray⟩] 41)) (W4.heap.size+1) 2 (some ⟨W4.heap.size,0,none⟩) 1 [.string ⟨f.1.toArray⟩,.string ⟨f.2.toArray⟩]:=Zsr W4 f
    have hD5:=H4.out.d.next ((Below.refl W4.heap.size W4).alloc (Nat.le_refl _) (.cells #[.string ⟨f.1.toArray⟩,.string ⟨f.2.toArray⟩] 41))
    have HTA:=Hd hTA
    have HD5:=Hd hD5
    have HFO:=Hd hfo
    have H40:=Hd hl40
    have HBA:=Hd (show w.heap.size<=(W4.alloc (.cells #[.string ⟨f.1.toArray⟩,.string ⟨f.2.toArray⟩] 41)).heap.size from hD5.kp.size)
    clear hTA hD5 hfo hl40
    go_wp2_with (at_builtin;refine Zah _ rfl _ _ 22 rfl w.heap.size 41 i0 (.agg #[.string ⟨#[]⟩,.string ⟨#[]⟩]) 2 32 underlying22 HI.out HZ0.out HZ1.out HZ2.out rfl (by decide) _ _ _ rfl HD5.out.row (W4.heap.size+1) (some ⟨W4.heap.size,0,none⟩) 1 1 [.string ⟨f.1.toArray⟩,.string ⟨f.2.toArray⟩] rfl HTA.out (Zss f) (by unfold maxLen;omega) (by omega) HBA.out ?_;intro v2 w5 hown2 hg2 hv2;have HD6:=Hd (HD5.out.push f hown2 hg2 hv2);obtain⟨A2,c2,rfl⟩:=Zas hown2;clear hown2 hg2 hv2)
    refine(Zg5 (acc++[f]) HFO.out (by have:=H40.out;omega) A2 _ c2 (by simp) w5 (by have h:=HD6.out.row;rw[show acc.length+1=(acc++[f]).length by simp]at h;exact Zei h)).mono ?_
    rintro e w6 ⟨rfl,hb6⟩
    have HD7:=Hd (HD6.out.next hb6)
    clear hb6
    rw[htm]
    go_wp2_with fail
    go_roundg (bk.drop U).length
    case measure=>rw[List.length_drop];have:=HLEN.out;omega
    case rel=>exact⟨bk.drop U,_,_,acc++[f],_,_,rfl,by rw[List.length_drop];omega,HD7.out,hnx⟩
   ·have i1:¬(128:Int)<=((y0:Nat):Int):=by omega
    have i2:=decide_eq_false i1
    have i3:=decide_eq_false h128
    by_cases h64:64<=y0
    ·have i4:(64:Int)<=((y0:Nat):Int):=by omega
     have i5:=decide_eq_true i4
     have i6:=decide_eq_true h64
     obtain⟨f,U,hg,htm,hS⟩:=Zwn HGO.out.1 (by rw[HY0.out];exact h128) (by rw[HY0.out];exact h64)
     have hgo2:=HGO.out
     rw[hS]at hgo2
     obtain⟨-,hnx,hU1,hU2⟩:=hgo2
     simp only at hnx hU1 hU2
     have HG:=Hd hg
     have HNX:=Hd hnx
     have HTM:=Hd htm
     have hfk:=(Zfj htm).1 f (by simp)
     clear hS hg hnx htm r0 rb d2 h0i h0
     go_wp2_with fail
     refine(lit_ok HF.out.d.ci HF.out.d.rd (Nat.lt_of_lt_of_le HF.out.d.bw HF.out.d.kp.size) HF.out.d.bR HF.out.d.nR hbm 6 f U HG.out).mono ?_
     rintro e w2 ⟨rfl,hr2,hk2⟩
     have h2:=HF.out.read hr2 hk2
     clear r1 f1 rl d1 dl
     obtain⟨-,r1,f1,rl,d1,d2,dl⟩:=h2.d.cells
     obtain⟨c0,c1,g0,g1,cF⟩:=h2.cells
     have H4:=Hd (h2.put (.string ⟨f.1.toArray⟩) (.string ⟨f.2.toArray⟩))
     clear h2 hr2 hk2 i1 i2 i3 i4 i5 i6
     go_upto_region 12 with fail
     obtain⟨W3,hW3⟩:=exl ((w2.setCell ⟨F,0,none⟩ (.string ⟨f.1.toArray⟩)).setCell ⟨F,1,none⟩ (.string ⟨f.2.toArray⟩))
     rw[hW3]
     have H3:=Hd (show DFt w W3 C h A A' c' R B (bk.drop U) yk mk most u4 acc F (.string ⟨f.1.toArray⟩) (.string ⟨f.2.toArray⟩) qq by rw[<-hW3];exact H4.out)
     clear hW3 r1 f1 rl d1 d2 dl c0 c1 g0 g1 cF H4
     have r1:=H3.out.d.cells.2.1
     have d1:=H3.out.d.cells.2.2.2.2.1
     have c0:=H3.out.cells.1
     have c1:=H3.out.cells.2.1
     go_upto_region 13 with fail
     go_still_tail 5,(by kernel_rfl)
     have H3D:=Hd (H3.out.next ((Below.refl _ W3).drew))
     change wpList _ _ _ _ _ W3.drew
     generalize W3.drew=w3 at*
     clear r1 d1 c0 c1
     go_wp2_with fail
     refine(Z1x H3D.out.d.ci.tab f hfk).mono ?_
     rintro e W4 ⟨rfl,hadd⟩
     obtain⟨A2',c2',h4⟩:=H3D.out.add f hadd
     have H4:=Hd h4
     clear h4 hadd
     go_upto_region 23 with fail
     have hnx:=HNX.out
     have htm:=HTM.out
     obtain⟨-,r1,f1,rl,d1,d2,dl⟩:=H4.out.d.cells
     obtain⟨c0,c1,-,-,cF⟩:=H4.out.cells
     obtain⟨hfo,hl40⟩:=Zfj htm
     have hla:acc.length+1<=40:=by rw[List.length_append]at hl40;exact hl40
     have hTA:Zab (W4.alloc (.cells #[.string ⟨f.1.toArray⟩,.string ⟨f.2.toArray⟩] 41)) (W4.heap.size+1) 2 (some ⟨W4.heap.size,0,none⟩) 1 [.string ⟨f.1.toArray⟩,.string ⟨f.2.toArray⟩]:=Zsr W4 f
     have hD5:=H4.out.d.next ((Below.refl W4.heap.size W4).alloc (Nat.le_refl _) (.cells #[.string ⟨f.1.toArray⟩,.string ⟨f.2.toArray⟩] 41))
     have HTA:=Hd hTA
     have HD5:=Hd hD5
     have HFO:=Hd hfo
     have H40:=Hd hl40
     have HBA:=Hd (show w.heap.size<=(W4.alloc (.cells #[.string ⟨f.1.toArray⟩,.string ⟨f.2.toArray⟩] 41)).heap.size from hD5.kp.size)
     clear hTA hD5 hfo hl40
     go_wp2_with (at_builtin;refine Zah _ rfl _ _ 22 rfl w.heap.size 41 i0 (.agg #[.string ⟨#[]⟩,.string ⟨#[]⟩]) 2 32 underlying22 HI.out HZ0.out HZ1.out HZ2.out rfl (by decide) _ _ _ rfl HD5.out.row (W4.heap.size+1) (some ⟨W4.heap.size,0,none⟩) 1 1 [.string ⟨f.1.toArray⟩,.string ⟨f.2.toArray⟩] rfl HTA.out (Zss f) (by unfold maxLen;omega) (by omega) HBA.out ?_;intro v2 w5 hown2 hg2 hv2;have HD6:=Hd (HD5.out.push f hown2 hg2 hv2);obtain⟨A2,c2,rfl⟩:=Zas hown2;clear hown2 hg2 hv2)
     refine(Zg5 (acc++[f]) HFO.out (by have:=H40.out;omega) A2 _ c2 (by simp) w5 (by have h:=HD6.out.row;rw[show acc.length+1=(acc++[f]).length by simp]at h;exact Zei h)).mono ?_
     rintro e w6 ⟨rfl,hb6⟩
     have HD7:=Hd (HD6.out.next hb6)
     clear hb6
     rw[htm]
     go_wp2_with fail
     go_roundg (bk.drop U).length
     case measure=>rw[List.length_drop];have:=HLEN.out;omega
     case rel=>exact⟨bk.drop U,_,_,acc++[f],_,_,rfl,by rw[List.length_drop];omega,HD7.out,hnx⟩
    ·have i4:¬(64:Int)<=((y0:Nat):Int):=by omega
     have i5:=decide_eq_false i4
     have i6:=decide_eq_false h64
     by_cases h32:32<=y0
     ·have i7:(32:Int)<=((y0:Nat):Int):=by omega
      have i8:=decide_eq_true i7
      have i9:=decide_eq_true h32
      obtain⟨N,U,hg,hNm,hl0,hS⟩:=Zsm HGO.out.1 (by rw[HY0.out];exact h128) (by rw[HY0.out];exact h64) (by rw[HY0.out];exact h32)
      subst hl0
      have hgo2:=HGO.out
      rw[hS]at hgo2
      obtain⟨-,hnx,hU1,hU2⟩:=hgo2
      simp only at hnx hU1 hU2
      have HG:=Hd hg
      have HNX:=Hd hnx
      obtain⟨VA,vc,hv⟩:=Zas HF.out.d.row
      have hn1:¬((most:Nat):Int) < ((N:Nat):Int):=by omega
      have hn2:=decide_eq_false hn1
      have hn3:decide (most < N)=false:=by simp;omega
      clear hS hg hnx r0 rb d2 h0i h0
      subst hv
      go_wp2_with fail
      refine(Zn0 HF.out.d.rd HF.out.d.bR hbm 5 N U HG.out).mono ?_
      rintro e w2 ⟨rfl,hr2,hk2⟩
      have h2:=HF.out.read hr2 hk2
      clear r1 f1 rl d1 dl
      obtain⟨-,r1,f1,rl,d1,d2,dl⟩:=h2.d.cells
      have H2:=Hd h2
      clear h2 hr2 hk2
      go_wp2_with fail
      refine(Zvu H2.out.d.ci.tab N (by omega)).mono ?_
      rintro e w3 ⟨rfl,ht3,hk3⟩
      have h3:=H2.out.d.size ht3 hk3
      have H3:=Hd h3.noErr
      clear r1 f1 rl d1 d2 dl hn1 hn2 hn3
      obtain⟨-,r1,f1,rl,d1,d2,dl⟩:=h3.cells
      clear h3 ht3 hk3
      go_wp2_with fail
      go_roundg (bk.drop U).length
      case measure=>rw[List.length_drop];have:=HLEN.out;omega
      case rel=>exact⟨bk.drop U,_,_,[],_,_,rfl,by rw[List.length_drop];omega,H3.out,HNX.out⟩
     ·have i7:¬(32:Int)<=((y0:Nat):Int):=by omega
      have i8:=decide_eq_false i7
      have i9:=decide_eq_false h32
      obtain⟨f,U,hg,htm,hS⟩:=Zwo HGO.out.1 (by rw[HY0.out];exact h128) (by rw[HY0.out];exact h64) (by rw[HY0.out];exact h32)
      have hgo2:=HGO.out
      rw[hS]at hgo2
      obtain⟨-,hnx,hU1,hU2⟩:=hgo2
      simp only at hnx hU1 hU2
      have HG:=Hd hg
      have HNX:=Hd hnx
      have HTM:=Hd htm
      have hfk:=(Zfj htm).1 f (by simp)
      clear hS hg hnx htm r0 rb d2 h0i h0
      go_wp2_with fail
      refine(lit_ok HF.out.d.ci HF.out.d.rd (Nat.lt_of_lt_of_le HF.out.d.bw HF.out.d.kp.size) HF.out.d.bR HF.out.d.nR hbm 4 f U HG.out).mono ?_
      rintro e w2 ⟨rfl,hr2,hk2⟩
      have h2:=HF.out.read hr2 hk2
      clear r1 f1 rl d1 dl
      obtain⟨-,r1,f1,rl,d1,d2,dl⟩:=h2.d.cells
      obtain⟨c0,c1,g0,g1,cF⟩:=h2.cells
      have H4:=Hd (h2.put (.string ⟨f.1.toArray⟩) (.string ⟨f.2.toArray⟩))
      clear h2 hr2 hk2 i1 i2 i3 i4 i5 i6 i7 i8 i9
      go_upto_region 23 with fail
      obtain⟨W4,hW4⟩:=exl ((w2.setCell ⟨F,0,none⟩ (.string ⟨f.1.toArray⟩)).setCell ⟨F,1,none⟩ (.string ⟨f.2.toArray⟩))
      rw[hW4]
      have H4:=Hd (show DFt w W4 C h A A' c' R B (bk.drop U) yk mk most u4 acc F (.string ⟨f.1.toArray⟩) (.string ⟨f.2.toArray⟩) qq by rw[<-hW4];exact H4.out)
      clear hW4 r1 f1 rl d1 d2 dl c0 c1 g0 g1 cF
      have hnx:=HNX.out
      have htm:=HTM.out
      obtain⟨-,r1,f1,rl,d1,d2,dl⟩:=H4.out.d.cells
      obtain⟨c0,c1,-,-,cF⟩:=H4.out.cells
      obtain⟨hfo,hl40⟩:=Zfj htm
      have hla:acc.length+1<=40:=by rw[List.length_append]at hl40;exact hl40
      have hTA:Zab (W4.alloc (.cells #[.string ⟨f.1.toArray⟩,.string ⟨f.2.toArray⟩] 41)) (W4.heap.size+1) 2 (some ⟨W4.heap.size,0,none⟩) 1 [.string ⟨f.1.toArray⟩,.string ⟨f.2.toArray⟩]:=Zsr W4 f
      have hD5:=H4.out.d.next ((Below.refl W4.heap.size W4).alloc (Nat.le_refl _) (.cells #[.string ⟨f.1.toArray⟩,.string ⟨f.2.toArray⟩] 41))
      have HTA:=Hd hTA
      have HD5:=Hd hD5
      have HFO:=Hd hfo
      have H40:=Hd hl40
      have HBA:=Hd (show w.heap.size<=(W4.alloc (.cells #[.string ⟨f.1.toArray⟩,.string ⟨f.2.toArray⟩] 41)).heap.size from hD5.kp.size)
      clear hTA hD5 hfo hl40
      go_wp2_with (at_builtin;refine Zah _ rfl _ _ 22 rfl w.heap.size 41 i0 (.agg #[.string ⟨#[]⟩,.string ⟨#[]⟩]) 2 32 underlying22 HI.out HZ0.out HZ1.out HZ2.out rfl (by decide) _ _ _ rfl HD5.out.row (W4.heap.size+1) (some ⟨W4.heap.size,0,none⟩) 1 1 [.string ⟨f.1.toArray⟩,.string ⟨f.2.toArray⟩] rfl HTA.out (Zss f) (by unfold maxLen;omega) (by omega) HBA.out ?_;intro v2 w5 hown2 hg2 hv2;have HD6:=Hd (HD5.out.push f hown2 hg2 hv2);obtain⟨A2,c2,rfl⟩:=Zas hown2;clear hown2 hg2 hv2)
      refine(Zg5 (acc++[f]) HFO.out (by have:=H40.out;omega) A2 _ c2 (by simp) w5 (by have h:=HD6.out.row;rw[show acc.length+1=(acc++[f]).length by simp]at h;exact Zei h)).mono ?_
      rintro e w6 ⟨rfl,hb6⟩
      have HD7:=Hd (HD6.out.next hb6)
      clear hb6
      rw[htm]
      go_wp2_with fail
      go_roundg (bk.drop U).length
      case measure=>rw[List.length_drop];have:=HLEN.out;omega
      case rel=>exact⟨bk.drop U,_,_,acc++[f],_,_,rfl,by rw[List.length_drop];omega,HD7.out,hnx⟩
end
section
open Go.RowKit
variable {qq:Value×Value}
attribute [local go_sem ↓] Go.wp_at_zero Go.wp_at_succ
theorem Zm8 {w:World}{C h:Nat}{A:Option Addr}{c:Nat}{ys:List Fld}{my most:Nat}(H:CIn w C h A c ys my most false qq)(hmost:most<=4096)(b:List UInt8)(LA:Option Addr)(n lc:Nat)(hn:n=b.length)(hcap:b.length<=lc)(hm:b.length<=140737488355328)(B:Nat)(hB:B < w.heap.size)(hBl:¬Zmb C h A B)(hr:Zab w w.heap.size 1 LA b.length (bs b))(hLA:∀ad,LA=some ad->ad.block=B)
  (ys':List Fld) (my':Nat) (L:List Fld) (hH:heard most ys my [] b=⟨0,ys',my',L,0⟩):
  CA 11 #[.pointer (some ⟨C,0,none⟩),.slice LA n lc] w fun e w'=>∃A2 n2 c2,e=.returned (.tuple #[.slice A2 n2 c2,.nilIface])/\n2=L.length/\w'.ownsRow w.heap.size 41 2 (.slice A2 n2 c2) n2 (fvs L)/\Zvg w w' C h A ys' my' most qq (.slice A2 n2 c2):=by
 subst hn
 have hcd:=cdec_ok H hmost b LA _ lc rfl hcap hm B hB hBl hr hLA ys' my' L hH
 obtain⟨hb,ht⟩:=H
 have c4:=hb.cell 4
 have HCD:=Hd hcd
 have HC:=Hd hb.lt
 clear hb ht hr hH hcd hBl hLA
 go_enter func11,ntmps11
 go_wp2_with fail
 refine Mo HCD ?_
 rintro e w1 ⟨A2,n2,c2,rfl,rfl,hrow,A',c',hci,hkp,hfr,hnv⟩
 obtain⟨hb2,ht2⟩:=hci
 have c4:=hb2.cell 4
 have f4:=hb2.frozen 4
 have hl4:=hb2.lt
 have k3:Zax (fun k=>k=C) w1 (w1.setCell ⟨C,4,none⟩ (.bool false)):=(Zax.refl (fun k=>k=C) w1).setCell (p:=⟨C,4,none⟩) (.inl rfl) _
 have hCt:¬Zhs h A' C:=by
  rintro(rfl | ⟨a,ha,he⟩)
  ·exact Blk.ne_ hb2 ht2.blk (by decide) rfl
  ·have:=Zao ht2.own hb2 (by decide)
   rw[ha]at this
   exact this (by simp[Value.ownBlock,he])
 have hrow2:=Za3 hrow k3 fun k hk he=>Zao hrow hb2 (by decide) (he ▸ hk)
 have hb3:=hb2.set_ 4 (.bool false)
 have HD:=Hd (show Zvg w (w1.setCell ⟨C,4,none⟩ (.bool false)) C h A ys' my' most qq (.slice A2 L.length c2)from⟨A',c',⟨by simpa using hb3,ht2.keep k3 fun k hk he=>hCt (he ▸ hk)⟩,hkp.trans k3 fun i hi=> .inl (.inl hi),hfr,hnv⟩)
 have HRW:=Hd hrow2
 clear hb2 ht2 k3 hrow2 hb3 hrow hkp hfr hnv hCt
 go_wp2
 go_ret2
 exact⟨A2,_,c2,rfl,rfl,HRW.out,HD.out⟩
end
section
open Go.RowKit
section
variable {w w':World} {C g h:Nat} {A:Option Addr} {c:Nat} {Sv:Value} {xs ys:List Fld} {mx my most:Nat} {ps:List Nat} {bad:Bool} {S:Nat->Prop}
end
section
variable {w0 wr w1:World} {C g c mx D h c' my max:Nat} {A A':Option Addr} {Sv:Value} {xs ys:List Fld} {ps:List Nat}
end
end
section
open Go.RowKit
structure Zae where
 own:Nat->Prop
 holds:World->Prop
 loc:∀(S:Nat->Prop) (w w':World),Zax S w w'->(∀k,own k->¬S k)->(∀k,own k->k < w.heap.size)->holds w->holds w'
structure Sep (w:World)(L:List Zae):Prop where
 all:∀a∈L,a.holds w/\∀k,a.own k->k < w.heap.size
 apart:L.Pairwise fun a b=>∀k,a.own k->¬b.own k
section
variable {w w':World} {L:List Zae} {a b:Zae} {i:Nat}
theorem Sep.get (h:Sep w L)(hi:L[i]? =some a):a.holds w:=(h.all a (List.mem_of_getElem? hi)).1
theorem Sep.lt (h:Sep w L)(hi:L[i]? =some a){k:Nat}(hk:a.own k):k < w.heap.size:=(h.all a (List.mem_of_getElem? hi)).2 k hk
theorem Sep.ne (h:Sep w L){i j:Nat}(hij:i≠j)(hi:L[i]? =some a)(hj:L[j]? =some b){k:Nat}(hk:a.own k):¬b.own k:=by
 obtain⟨h1,h2⟩:=List.getElem?_eq_some_iff.1 hi
 obtain⟨h3,h4⟩:=List.getElem?_eq_some_iff.1 hj
 rcases Nat.lt_or_gt_of_ne hij with h5 | h5
 ·have:=List.pairwise_iff_getElem.1 h.apart i j h1 h3 h5
  rw[h2,h4]at this
  exact this k hk
 ·have:=List.pairwise_iff_getElem.1 h.apart j i h3 h1 h5
  rw[h2,h4]at this
  exact fun hb=>this k hb hk
theorem Sep.kept (h:Sep w L){S:Nat->Prop}(hk:Zax S w w')(hS:∀a∈L,∀k,a.own k->¬S k):Sep w' L:=
 ⟨fun a ha=>⟨a.loc S w w' hk (hS a ha) (h.all a ha).2 (h.all a ha).1,fun k hk2=>Nat.lt_of_lt_of_le ((h.all a ha).2 k hk2) hk.size⟩,h.apart⟩
theorem Sep.below (h:Sep w L)(hb:Below w.heap.size w w'):Sep w' L:=h.kept (Zax.of_below (S:=fun _=>False) hb) fun _ _ _ _ h=>h
theorem Sep.drew (h:Sep w L):Sep w.drew L:=h.below ((Below.refl _ _).drew)
theorem Sep.alloc (h:Sep w L)(o:Obj):Sep (w.alloc o) L:=h.below ((Below.refl _ _).alloc (Nat.le_refl _) o)
theorem Sep.upd (h:Sep w L)(hi:L[i]? =some a)(hk:Zax a.own w w')(hb:b.holds w')(hlt:∀k,b.own k->k < w'.heap.size)(hsub:∀k,b.own k->a.own k∨w.heap.size<=k):Sep w' (L.set i b):=by
 obtain⟨h1,h2⟩:=List.getElem?_eq_some_iff.1 hi
 have hno:∀j (hj:j < L.length),j≠i->∀k,(L[j]).own k->¬a.own k:=fun j hj hji k hk2=>h.ne hji (List.getElem?_eq_getElem hj) hi hk2
 refine⟨fun c hc=> ?_,List.pairwise_iff_getElem.2 fun p q hp hq hpq k hk2 hk3=> ?_⟩
 ·obtain⟨j,hj,rfl⟩:=List.mem_iff_getElem.1 hc
  rw[List.length_set]at hj
  by_cases hji:j=i
  ·subst hji
   rw[List.getElem_set_self]
   exact⟨hb,hlt⟩
  ·rw[List.getElem_set_ne (Ne.symm hji)]
   have hm:=h.all _ (List.getElem_mem hj)
   exact⟨(L[j]).loc a.own w w' hk (hno j hj hji) hm.2 hm.1,fun k hk2=>Nat.lt_of_lt_of_le (hm.2 k hk2) hk.size⟩
 ·have hp':p < L.length:=by simpa using hp
  have hq':q < L.length:=by simpa using hq
  by_cases hpi:p=i
  ·subst hpi
   rw[List.getElem_set_self]at hk2
   rw[List.getElem_set_ne (by omega)]at hk3
   rcases hsub k hk2 with h5 | h5
   ·exact hno q hq' (by omega) k hk3 h5
   ·have:=(h.all _ (List.getElem_mem hq')).2 k hk3
    omega
  ·by_cases hqi:q=i
   ·subst hqi
    rw[List.getElem_set_self]at hk3
    rw[List.getElem_set_ne (by omega)]at hk2
    rcases hsub k hk3 with h5 | h5
    ·exact hno p hp' hpi k hk2 h5
    ·have:=(h.all _ (List.getElem_mem hp')).2 k hk2
     omega
   ·rw[List.getElem_set_ne (Ne.symm hpi)]at hk2
    rw[List.getElem_set_ne (Ne.symm hqi)]at hk3
    exact h.ne (by omega) (List.getElem?_eq_getElem hp') (List.getElem?_eq_getElem hq') hk2 hk3
theorem Sep.new (h:Sep w L)(hb:Below w.heap.size w w')(ha:a.holds w')(hn:∀k,a.own k->w.heap.size<=k/\k < w'.heap.size):Sep w' (a::L):=by
 have h':=h.below hb
 refine⟨fun c hc=> ?_,List.pairwise_cons.2 ⟨fun c hc k hk hk2=> ?_,h'.apart⟩⟩
 ·rcases List.mem_cons.1 hc with rfl | hc
  ·exact⟨ha,fun k hk=>(hn k hk).2⟩
  ·exact h'.all c hc
 ·have h1:=(hn k hk).1
  have h2:=(h.all c hc).2 k hk2
  omega
theorem Sep.sub (h:Sep w L){M:List Zae}(hM:M.Sublist L):Sep w M:=⟨fun a ha=>h.all a (hM.subset ha),h.apart.sublist hM⟩
theorem Sep.perm (h:Sep w L){M:List Zae}(hM:L.Perm M):Sep w M:=
 ⟨fun a ha=>h.all a (hM.mem_iff.2 ha),hM.pairwise h.apart fun {x y} h1 k hk hk2=>h1 k hk2 hk⟩
theorem Sep.tail (h:Sep w (a::L)):Sep w L:=h.sub (List.sublist_cons_self _ _)
end
def Zaa (g:Nat)(t:TypeId)(cs:Array Value):Zae:=⟨fun k=>k=g,fun w=>Blk w g t cs,fun _ _ _ hk hS _ h=>h.keep hk (hS g rfl)⟩
def Zak (r:Nat)(es:Array MapEntry)(c:Nat):Zae:=⟨fun k=>k=r,fun w=>Zcz w r es c,fun _ _ _ hk hS hl h=>(hk.block r (hl r rfl) (hS r rfl)).trans h⟩
def Zad (e:TypeId)(size:Nat)(v:Value)(n:Nat)(xs:List Value):Zae:=⟨fun k=>v.ownBlock=some k,fun w=>w.ownsRow 0 e size v n xs,fun _ _ _ hk hS _ h=>Za3 h hk hS⟩
def Zel (w0:World):Zae:=⟨fun k=>k < w0.heap.size,fun w=>Below w0.heap.size w0 w,fun _ _ _ hk hS hl h=>h.trans ⟨hk.os,hk.tape,hk.output,hk.size,fun k hk2=>hk.block k (hl k hk2) (hS k hk2)⟩⟩
section
variable {w w1:World} {L:List Zae} {i g j:Nat} {t:TypeId} {cs:Array Value}
theorem Sep.blk (h:Sep w L)(hi:L[i]? =some (Zaa g t cs)):Blk w g t cs:=h.get hi
theorem Sep.set_ (h:Sep w L)(hi:L[i]? =some (Zaa g t cs))(j:Nat)(v:Value):Sep (w.setCell ⟨g,j,none⟩ v) (L.set i (Zaa g t (cs.setIfInBounds j v))):=by
 have hb:=h.blk hi
 refine h.upd hi (show Zax (fun k=>k=g) _ _ from(Zax.refl (fun k=>k=g) w).setCell (p:=⟨g,j,none⟩) (.inl rfl) v) (hb.set_ j v) ?_ fun k hk=> .inl hk
 rintro k rfl
 have:=hb.lt
 simpa [World.setCell]using this
theorem Sep.old {w0:World}(h:Sep w L)(hi:L[i]? =some (Zel w0)):Below w0.heap.size w0 w:=h.get hi
theorem Sep.row {e:TypeId}{size n:Nat}{v:Value}{xs:List Value}(h:Sep w L)(hi:L[i]? =some (Zad e size v n xs)):w.ownsRow 0 e size v n xs:=h.get hi
theorem Sep.grow {e:TypeId}{size n n':Nat}{v v':Value}{xs xs':List Value}(h:Sep w L)(hi:L[i]? =some (Zad e size v n xs))(hown:w1.ownsRow 0 e size v' n' xs')(hg:w.grownBy w1 v.ownBlock)(hv:v'.ownBlock=v.ownBlock∨∀k,v'.ownBlock=some k->w.heap.size<=k):Sep w1 (L.set i (Zad e size v' n' xs')):=by
 refine h.upd hi (show Zax (fun k=>v.ownBlock=some k) _ _ from(Zax.refl (fun k=>v.ownBlock=some k) w).grown hg fun k hk=> .inl hk) hown (fun k hk=>(hown.lt k hk).2) fun k hk=> ?_
 rcases hv with h1 | h1
 ·exact .inl (show v.ownBlock=some k by rw[<-h1];exact hk)
 ·exact .inr (h1 k hk)
theorem Sep.map_ {r c:Nat}{es:Array MapEntry}(h:Sep w L)(hi:L[i]? =some (Zak r es c)):Zcz w r es c:=h.get hi
theorem Sep.putMap {r c c':Nat}{es es':Array MapEntry}(h:Sep w L)(hi:L[i]? =some (Zak r es c)):Sep (putM w r es' c') (L.set i (Zak r es' c')):=by
 have hm:=h.map_ hi
 refine h.upd hi ⟨rfl,rfl,rfl,by rw[Zfb];exact Nat.le_refl _,fun k _ hk=>Zd8 hk⟩ (Zfc hm) ?_ fun k hk=> .inl hk
 rintro k rfl
 rw[Zfb]
 exact hm.lt
theorem Sep.newBlk (h:Sep w L)(t:TypeId)(cs:Array Value):Sep (w.alloc (.cells cs t)) (Zaa w.heap.size t cs::L):=
 h.new ((Below.refl _ _).alloc (Nat.le_refl _) _) (Blk.new w t cs) (by rintro k rfl;simp)
theorem Sep.newMap (h:Sep w L):Sep (w.alloc (.map #[] 0)) (Zak w.heap.size #[] 0::L):=
 h.new ((Below.refl _ _).alloc (Nat.le_refl _) _) (heap_alloc_new w _) (by rintro k rfl;simp)
theorem Sep.newRow {e:TypeId}{size n:Nat}{v:Value}{xs:List Value}(h:Sep w L)(hb:Below w.heap.size w w1)(ho:w1.ownsRow w.heap.size e size v n xs):Sep w1 (Zad e size v n xs::L):=
 h.new hb ⟨ho.1,ho.2.imp id fun⟨g,cap,cur,h1,_,h3⟩=>⟨g,cap,cur,h1,Nat.zero_le _,h3⟩⟩ fun k hk=>ho.lt k hk
theorem Sep.nilRow (h:Sep w L)(e:TypeId)(size:Nat):Sep w (Zad e size (.slice none 0 0) 0 []::L):=
 h.new (Below.refl _ _) (World.ownsRow_nil _ _ _ _) (by intro k hk;cases hk)
end
theorem Zm1 :∀(L:List Zae) (i:Nat) (a:Zae),L[i]? =some a->L.Perm (a::L.eraseIdx i)
 | [],_,_,h=>by simp at h
 | b::L,0,a,h=>by
  simp only[List.getElem?_cons_zero,Option.some.injEq]at h
  subst h
  exact List.Perm.refl _
 | b::L,i+1,a,h=>by
  simp only[List.getElem?_cons_succ]at h
  exact((Zm1 L i a h).cons b).trans (List.Perm.swap a b _)
theorem Zcj (l:List UInt8):∀u∈bs l,u.oneCell'=true:=by
 intro u hu
 obtain⟨b,_,rfl⟩:=List.mem_map.1 hu
 rfl
section
variable {w w':World} {L:List Zae} {i g j:Nat} {t:TypeId} {cs:Array Value}
theorem Sep.at_ (h:Sep w L)(hi:L[i]? =some (Zaa g t cs)):(∀j,w.cell? ⟨g,j,none⟩=cs[j]?)/\(∀j,w.frozen? ⟨g,j,none⟩=false)/\g < w.heap.size:=
 ⟨fun j=>(h.blk hi).cell j,fun j=>(h.blk hi).frozen j,(h.blk hi).lt⟩
theorem Sep.ne_ {i' g':Nat}{t':TypeId}{cs':Array Value}(h:Sep w L)(hi:L[i]? =some (Zaa g t cs))(hj:L[i']? =some (Zaa g' t' cs'))(hij:i≠i'):g≠g':=fun e=>h.ne hij hi hj (k:=g) rfl e
theorem Sep.front {a:Zae}(h:Sep w L)(i:Nat)(hi:L[i]? =some a):Sep w (a::L.eraseIdx i):=h.perm (Zm1 L i a hi)
theorem Sep.drop_ (h:Sep w L)(i:Nat):Sep w (L.eraseIdx i):=h.sub (List.eraseIdx_sublist L i)
end
theorem Zcl {ops:Array Oper}{rest:List Oper}{o:Oper}{a:Act}{Q:Exit->Act->World->Prop}{w:World}{L:List Zae}{i:Nat}(hgd:o.guard=none)(s x:Operand)
  (ho:o.op=.call {callee:=.builtin .append,args:= #[s,x],argTypes:= #[23,23]})
  (v:Value) (n:Nat) (xs:List Value) (h0:Sep w L) (hi:L[i]? =some (Zad 5 1 v n xs)) (hs:a.eval s=v)
  (A:Option Addr) (m c:Nat) (news:List UInt8) (hr:Zab w w.heap.size 1 A m (bs news)) (hx:a.eval x=.slice A m c) (hn:n+m<=1000000)
  (h:∀A' c' w',Sep w' (L.set i (Zad 5 1 (.slice A' (n+m) c') (n+m) (xs++bs news)))->w.grownBy w' v.ownBlock->wpList prog ops Q rest (a.put o.dst (.slice A' (n+m) c')) w'):wpList prog ops Q (o::rest) a w:=by
 obtain⟨i0,hi0,hz0,hz1,hz2⟩:=info_parts Zbz
 refine Zah _ hgd s x 23 ho 0 5 i0 (.int .u8 0) 1 1 underlying23 hi0 hz0 hz1 hz2 rfl (by decide) v n xs hs (h0.row hi) w.heap.size A m c (bs news) hx hr (Zcj _) (by simp only[maxLen];omega) (by omega) (Nat.zero_le _) ?_
 intro v' w' hown' hg hloc
 obtain⟨A',c',rfl⟩:=Zas hown'
 refine h A' c' w' (h0.grow hi hown' hg ?_) hg
 rcases hloc with h1 | h1
 ·exact .inl h1
 ·right
  intro k hk
  rw[h1]at hk
  injection hk with hk
  omega
def Zbd :List Zae->Nat->Zae
 | a::_,0=>a
 | _::l,n+1=>Zbd l n
 | [],_=>⟨fun _=>False,fun _=>True,fun _ _ _ _ _ _ h=>h⟩
theorem Zun :∀(L:List Zae) (i:Nat),i < L.length->L[i]? =some (Zbd L i)
 | [],_,h=>by simp at h
 | _::_,0,_=>rfl
 | _::l,n+1,h=>by
  rw[List.getElem?_cons_succ]
  exact Zun l n (by simpa using h)
theorem Sep.ordN0 {w:World}{L:List Zae}(h:Sep w L)(n:Nat)(p:List Nat)(hl:(L.take n).length=n)(hp:(decide p.Nodup && p.all (· < n))=true):Sep w (p.map (Zbd L)++L.drop n):=by
 simp only[Bool.and_eq_true,decide_eq_true_eq,List.all_eq_true]at hp
 obtain⟨hn,hb⟩:=hp
 have hlen:n<=L.length:=by rw[<-hl];simp;omega
 have hget:∀i,i∈p->L[i]? =some (Zbd L i):=fun i hi=>Zun L i (Nat.lt_of_lt_of_le (hb i hi) hlen)
 refine⟨fun a ha=> ?_,List.pairwise_append.2 ⟨?_,h.apart.sublist (List.drop_sublist n L),?_⟩⟩
 ·rcases List.mem_append.1 ha with ha | ha
  ·obtain⟨i,hi,rfl⟩:=List.mem_map.1 ha
   exact h.all _ (List.mem_of_getElem? (hget i hi))
  ·exact h.all a ((List.drop_sublist n L).subset ha)
 ·refine List.pairwise_map.2 (List.Pairwise.imp_of_mem (fun {i j} hi hj hij=> ?_) hn)
  intro k hk
  exact h.ne hij (hget i hi) (hget j hj) hk
 ·intro a ha b hb2 k hk
  obtain⟨i,hi,rfl⟩:=List.mem_map.1 ha
  obtain⟨j,hj,rfl⟩:=List.mem_iff_getElem.1 hb2
  rw[List.getElem_drop]at*
  have hi2:=hb i hi
  exact h.ne (i:=i) (j:=n+j) (by omega) (hget i hi) (List.getElem?_eq_getElem _) hk
def Zam :List Zae->Nat->List Zae
 | l,0=>l
 | _::l,n+1=>Zam l n
 | [],_+1=> []
theorem Zu6 :∀(L:List Zae) (n:Nat),Zam L n=L.drop n
 | [],0=>rfl
 | _::_,0=>rfl
 | [],_+1=>rfl
 | _::l,n+1=>Zu6 l n
def Zbo (L:List Zae):List Nat->Nat->List Zae
 | [],n=>Zam L n
 | i::p,n=>Zbd L i::Zbo L p n
theorem Zzc (L:List Zae)(n:Nat):∀p,Zbo L p n=p.map (Zbd L)++L.drop n
 | []=>Zu6 L n
 | i::p=>congrArg (Zbd L i::·) (Zzc L n p)
theorem Sep.ordN {w:World}{L:List Zae}(h:Sep w L)(n:Nat)(p:List Nat)(hl:(L.take n).length=n)(hp:(decide p.Nodup && p.all (· < n))=true):Sep w (Zbo L p n):=by
 rw[Zzc]
 exact h.ordN0 n p hl hp
structure Zo3 {K:Type} [DecidableEq K](kd:TypeDesc)(kv:K->Value):Prop where
 same:∀a b,Instr.sameNow kd (kv a) (kv b)=some (decide (a=b))
 bits:∀a,Instr.sameBits 10000 (kv a) (kv a)=true
 once:Zlv kd=true
section
variable {K:Type} [DecidableEq K] {kd:TypeDesc} {kv:K->Value}
def MapOk (kv:K->Value)(es:Array MapEntry)(c:Nat)(l:List (K×Value)):Prop:=
 es.toList.map (fun e=>(e.key,e.val))=l.map (fun p=>(kv p.1,p.2))/\(∀e∈es.toList,e.born < c)/\(es.toList.map (·.born)).Nodup
def Zan (kv:K->Value)(r:Nat)(l:List (K×Value)):Zae:=⟨fun k=>k=r,fun w=>∃es c,Zcz w r es c/\MapOk kv es c l,fun _ _ _ hk hS hl h=>by
 obtain⟨es,c,h1,h2⟩:=h
 exact⟨es,c,(hk.block r (hl r rfl) (hS r rfl)).trans h1,h2⟩⟩
def Za8 (l:List (K×Value))(k:K):Option Value:=(l.find? fun p=>decide (p.1=k)).map (·.2)
def Ze3 (l:List (K×Value))(k:K)(v:Value):List (K×Value):=l.map fun p=>if p.1=k then(k,v)else p
theorem Zsu (hK:Zo3 kd kv)(k:K):∀(es:List MapEntry) (l:List (K×Value)) (j:Nat),es.map (fun e=>(e.key,e.val))=l.map (fun p=>(kv p.1,p.2))->Za8 l k=none->Instr.findNow kd (kv k) es j=some none
 | [],_,_,_,_=>rfl
 | e::es,[],_,h,_=>by simp at h
 | e::es,p::l,j,h,hn=>by
  simp only[List.map_cons,List.cons.injEq,Prod.mk.injEq]at h
  unfold Za8 at hn
  rw[List.find?_cons]at hn
  by_cases hp:p.1=k
  ·simp[hp]at hn
  ·have hk:¬k=p.1:=fun e=>hp e.symm
   simp only[hp,decide_false]at hn
   unfold Instr.findNow
   rw[h.1.1,hK.same,decide_eq_false hk]
   exact Zsu hK k es l (j+1) h.2 hn
theorem Zol (hK:Zo3 kd kv)(k:K)(v:Value):∀(es:List MapEntry) (l:List (K×Value)) (j:Nat),es.map (fun e=>(e.key,e.val))=l.map (fun p=>(kv p.1,p.2))->Za8 l k=some v->
  ∃i,Instr.findNow kd (kv k) es j=some (some (j+i,v))/\∃e,es[i]? =some e/\e.key=kv k/\l[i]? =some (k,v)/\∀q∈l.take i,q.1≠k
 | [],[],_,_,hn=>by simp[Za8]at hn
 | [],p::l,_,h,_=>by simp at h
 | e::es,[],_,h,_=>by simp at h
 | e::es,p::l,j,h,hn=>by
  simp only[List.map_cons,List.cons.injEq,Prod.mk.injEq]at h
  unfold Za8 at hn
  rw[List.find?_cons]at hn
  by_cases hp:p.1=k
  ·simp only[hp,decide_true,Option.map_some,Option.some.injEq]at hn
   refine⟨0,?_,e,rfl,by rw[h.1.1,hp],?_,by simp⟩
   ·unfold Instr.findNow
    rw[h.1.1,hK.same,decide_eq_true hp.symm,h.1.2,hn]
    rfl
   ·simp[<-hp,<-hn]
  ·have hk:¬k=p.1:=fun e=>hp e.symm
   simp only[hp,decide_false]at hn
   obtain⟨i,h1,e',h2,h3,h4,h5⟩:=Zol hK k v es l (j+1) h.2 hn
   refine⟨i+1,?_,e',by simpa using h2,h3,by simpa using h4,?_⟩
   ·unfold Instr.findNow
    rw[h.1.1,hK.same,decide_eq_false hk]
    rw[show j+(i+1)=j+1+i by omega]
    exact h1
   ·intro q hq
    rw[List.take_succ_cons,List.mem_cons]at hq
    rcases hq with rfl | hq
    ·exact hp
    ·exact h5 q hq
variable {P:Program} {w:World} {L:List Zae} {i r:Nat} {t kt et:TypeId} {l:List (K×Value)}
theorem Sep.lookV (hK:Zo3 kd kv)(h:Sep w L)(hi:L[i]? =some (Zan kv r l))(hm:P.underlying t=some (.map kt et))(hk:P.underlying kt=some kd){k:K}{v:Value}(hv:Za8 l k=some v)(ok:Bool):
  (Instr.lookup t (.map (some r)) (kv k) ok).run P w=.ok (if ok then .tuple #[v,.bool true]else v) w:=by
 obtain⟨es,c,h1,h2,_⟩:=h.get hi
 obtain⟨j,h3,_⟩:=Zol hK k v es.toList l 0 h2 hv
 exact Zcr hm hk hK.once h1 h3 ok
theorem Sep.lookN (hK:Zo3 kd kv)(h:Sep w L)(hi:L[i]? =some (Zan kv r l))(hm:P.underlying t=some (.map kt et))(hk:P.underlying kt=some kd){k:K}(hv:Za8 l k=none){z:Value}(hz:(zeroValue et).run P w=.ok z w)(ok:Bool):
  (Instr.lookup t (.map (some r)) (kv k) ok).run P w=.ok (if ok then .tuple #[z,.bool false]else z) w:=by
 obtain⟨es,c,h1,h2,_⟩:=h.get hi
 exact Zca hm hk hK.once h1 (Zsu hK k es.toList l 0 h2 hv) hz ok
omit [DecidableEq K] in
theorem Sep.setMapL (h:Sep w L)(hi:L[i]? =some (Zan kv r l)){es:Array MapEntry}{c:Nat}{l':List (K×Value)}(ho:MapOk kv es c l'):Sep (putM w r es c) (L.set i (Zan kv r l')):=by
 obtain⟨es0,c0,h1,_⟩:=h.get hi
 have hm:Zcz w r es0 c0:=h1
 refine h.upd hi ⟨rfl,rfl,rfl,by rw[Zfb];exact Nat.le_refl _,fun k _ hk=>Zd8 hk⟩ ⟨es,c,Zfc hm,ho⟩ ?_ fun k hk=> .inl hk
 rintro k rfl
 rw[Zfb]
 exact hm.lt
theorem Sep.updN (hK:Zo3 kd kv)(h:Sep w L)(hi:L[i]? =some (Zan kv r l))(hm:P.underlying t=some (.map kt et))(hk:P.underlying kt=some kd){k:K}(hv:Za8 l k=none)(v:Value):
  ∃es c,(Instr.mapUpdate t (.map (some r)) (kv k) v).run P w=.ok () (putM w r es c)/\Sep (putM w r es c) (L.set i (Zan kv r (l++[(k,v)]))):=by
 obtain⟨es,c,h1,h2,h3,h4⟩:=h.get hi
 refine⟨_,_,Za9 hm hk hK.once h1 (Zsu hK k es.toList l 0 h2 hv) v,h.setMapL hi ⟨?_,?_,?_⟩⟩
 ·simp only[Array.toList_push,List.map_append,List.map_cons,List.map_nil,h2]
 ·intro e he
  simp only[Array.toList_push,List.mem_append,List.mem_singleton]at he
  rcases he with he | rfl
  ·have:=h3 e he;omega
  ·exact Nat.lt_succ_self _
 ·simp only[Array.toList_push,List.map_append,List.map_cons,List.map_nil]
  refine List.nodup_append.2 ⟨h4,by simp,?_⟩
  intro x hx y hy
  obtain⟨e,he,rfl⟩:=List.mem_map.1 hx
  simp only[List.mem_singleton]at hy
  have:=h3 e he
  omega
theorem Sep.updO (hK:Zo3 kd kv)(h:Sep w L)(hi:L[i]? =some (Zan kv r l))(hm:P.underlying t=some (.map kt et))(hk:P.underlying kt=some kd){k:K}{v0:Value}(hv:Za8 l k=some v0)(hd:(l.map (·.1)).Nodup)(v:Value):
  ∃es c,(Instr.mapUpdate t (.map (some r)) (kv k) v).run P w=.ok () (putM w r es c)/\Sep (putM w r es c) (L.set i (Zan kv r (Ze3 l k v))):=by
 obtain⟨es,c,h1,h2,h3,h4⟩:=h.get hi
 obtain⟨j,hf,e,he,hek,hl,_⟩:=Zol hK k v0 es.toList l 0 h2 hv
 rw[Nat.zero_add]at hf
 have hej:es[j]? =some e:=by simpa using he
 refine⟨_,_,Zkr hm hk hK.once h1 hf (by rw[hej];simp only[Option.map_some,Option.getD_some,hek];exact hK.bits k) v,h.setMapL hi ⟨?_,?_,?_⟩⟩
 ·apply List.ext_getElem?
  intro n
  have h2n:=congrArg (·[n]?) h2
  simp only[List.getElem?_map]at h2n
  simp only[List.getElem?_map,Ze3,Array.toList_modify,List.getElem?_modify]
  by_cases hn:j=n
  ·subst hn
   rw[he,hl]
   simp
  ·simp only[hn,if_false,id_eq,Option.map_map,Function.comp_def]
   cases hen:es.toList[n]? with
   | none=>
    rw[hen]at h2n
    cases hln:l[n]? with
    | none=>rfl
    | some q=>rw[hln]at h2n;cases h2n
   | some y=>
    rw[hen]at h2n
    cases hln:l[n]? with
    | none=>rw[hln]at h2n;cases h2n
    | some q=>
     rw[hln]at h2n
     have hq:q.1≠k:=by
      intro hqk
      have a1:(l.map (·.1))[j]? =some k:=by simp[hl]
      have a2:(l.map (·.1))[n]? =some k:=by simp[hln,hqk]
      exact hn ((List.getElem?_inj (by have:=(List.getElem?_eq_some_iff.1 hl).1;simpa using this) hd).1 (a1.trans a2.symm))
     simp only[Option.map_some,Option.map_eq_map,hq,if_false]at h2n⊢
     exact h2n
 ·intro x hx
  rw[Array.toList_modify]at hx
  obtain⟨n,hn⟩:=List.mem_iff_getElem?.1 hx
  rw[List.getElem?_modify]at hn
  cases hen:es.toList[n]? with
  | none=>rw[hen]at hn;split at hn <;> cases hn
  | some y=>
   have hy:=h3 y (List.mem_of_getElem? hen)
   rw[hen]at hn
   split at hn
   ·cases hn;exact hy
   ·cases hn;exact hy
 ·have hb:((es.modify j fun e=>{e with key:=kv k,val:=v}).toList.map (·.born))=es.toList.map (·.born):=by
   apply List.ext_getElem?
   intro n
   simp only[List.getElem?_map,Array.toList_modify,List.getElem?_modify]
   cases es.toList[n]? with
   | none=>rfl
   | some y=>by_cases hn:j=n <;> simp[hn]
  rw[hb]
  exact h4
end
def Zat (k:Int):Value:=.int .i64 k
def Zed (l:List UInt8):Value:=.string ⟨l.toArray⟩
theorem Z1p (a b:ByteArray):(a==b)=decide (a=b):=by
 cases a
 cases b
 rename_i x y
 show(x==y)=_
 by_cases h:x=y <;> simp[h]
theorem Zu3 {α β:Type}(f:α->β):∀(l:List α) (j:Nat),(l.eraseIdx j).map f=(l.map f).eraseIdx j
 | [],_=>rfl
 | _::_,0=>rfl
 | a::l,j+1=>by simp[Zu3 f l j]
theorem Zja :Zo3 (.int .i64) Zat where
 same a b:=by
  simp only[Zat,Instr.sameNow,if_true]
  congr 1
 bits a:=by simp[Zat,Instr.sameBits]
 once:=rfl
theorem strK :Zo3 .string Zed where
 same a b:=by
  simp only[Zed,Instr.sameNow,Z1p]
  congr 2
  simp
 bits a:=by simp[Zed,Instr.sameBits,Z1p]
 once:=rfl
section
variable {K:Type} [DecidableEq K] {kd:TypeDesc} {kv:K->Value} {P:Program} {w:World} {L:List Zae} {i r:Nat} {t kt et:TypeId} {l:List (K×Value)}
def Z1w (l:List (K×Value))(k:K):List (K×Value):=l.filter fun p=>decide (p.1≠k)
theorem Sep.delL (hK:Zo3 kd kv)(h:Sep w L)(hi:L[i]? =some (Zan kv r l))(ty:TypeId)(hm:P.underlying t=some (.map kt et))(hk:P.underlying kt=some kd){k:K}{v0:Value}(hv:Za8 l k=some v0)(hd:(l.map (·.1)).Nodup):
  ∃es c,(Builtin.delete_ #[t,kt] ty #[.map (some r),kv k]).run P w=.ok (.tuple #[]) (putM w r es c)/\Sep (putM w r es c) (L.set i (Zan kv r (Z1w l k))):=by
 obtain⟨es,c,h1,h2,h3,h4⟩:=h.get hi
 obtain⟨j,hf,e,he,hek,hl,_⟩:=Zol hK k v0 es.toList l 0 h2 hv
 rw[Nat.zero_add]at hf
 have hlt:=(List.getElem?_eq_some_iff.1 he).1
 have hlt2:=(List.getElem?_eq_some_iff.1 hl).1
 have hes:(es.eraseIdxIfInBounds j).toList=es.toList.eraseIdx j:=by
  have hlt3:j < es.size:=by simpa using hlt
  simp[Array.eraseIdxIfInBounds,hlt3,Array.toList_eraseIdx]
 have hadel:Z1w l k=l.eraseIdx j:=by
  have hsplit:l=l.take j++(k,v0)::l.drop (j+1):=by
   have e1:l[j]=(k,v0):=(List.getElem?_eq_some_iff.1 hl).2
   rw[<-e1]
   simp
  rw[hsplit]at hd
  simp only[List.map_append,List.map_cons]at hd
  obtain⟨d1,d2,d3⟩:=List.nodup_append.1 hd
  rw[List.nodup_cons]at d2
  rw[List.eraseIdx_eq_take_drop_succ]
  conv=>lhs;rw[hsplit]
  unfold Z1w
  rw[List.filter_append,List.filter_cons]
  simp only[ne_eq,not_true_eq_false,decide_false,Bool.false_eq_true,if_false]
  rw[List.filter_eq_self.2,List.filter_eq_self.2]
  ·intro p hp
   simp only[decide_eq_true_eq]
   intro e2
   exact d2.1 (e2 ▸ List.mem_map.2 ⟨p,hp,rfl⟩)
  ·intro p hp
   simp only[decide_eq_true_eq]
   intro e2
   exact d3 p.1 (List.mem_map.2 ⟨p,hp,rfl⟩) k (List.mem_cons_self ..) e2
 refine⟨_,_,Zry ty hm hk hK.once h1 hf,h.setMapL hi ⟨?_,?_,?_⟩⟩
 ·rw[hes,hadel,Zu3,Zu3,h2]
 ·intro x hx
  rw[hes]at hx
  exact h3 x ((List.eraseIdx_sublist _ _).subset hx)
 ·rw[hes,Zu3]
  exact h4.sublist (List.eraseIdx_sublist _ _)
omit [DecidableEq K] in
theorem Sep.lenL (h:Sep w L)(hi:L[i]? =some (Zan kv r l))(ty:TypeId)(hm:P.underlying t=some (.map kt et)):
  (Builtin.len_ #[t] ty #[.map (some r)]).run P w=.ok (goInt l.length) w:=by
 obtain⟨es,c,h1,h2,_⟩:=h.get hi
 have hl:es.size=l.length:=by
  have:=congrArg List.length h2
  simpa using this
 rw[<-hl]
 exact Zj2 ty hm h1
end
end
end Go.Proofs.YtbgnggkgmeagkaaGreatDoor
