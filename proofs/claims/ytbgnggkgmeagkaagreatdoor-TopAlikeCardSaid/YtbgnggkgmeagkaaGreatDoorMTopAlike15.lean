/-
  A part of the proof of TopAlike: each theorem states its own conditions.
-/
import Derived.Test.YtbgnggkgmeagkaaGreatDoorMTopAlike14
import Derived.Deep.RegionWith
import Derived.Lib.ItoaNum
import Derived.Test.YtbgnggkgmeagkaaGreatDoorMTopAlike03
set_option linter.unusedSimpArgs false
set_option linter.unusedVariables false
set_option maxRecDepth 100000
set_option maxHeartbeats 16000000
namespace Go.Proofs.YtbgnggkgmeagkaaGreatDoor
open Go.Proofs.Tryz
section
open Go.RowKit
structure Zo0 (w:World)(R:Nat)(A:Option Addr)(l:List UInt8)(c at_:Nat):Prop where
 blk:Blk w R 77 #[.slice A l.length c,.int .i64 ((at_:Nat):Int),.nilIface]
 rd:Zab w R 1 A l.length (bs l)
 le:at_<=l.length
 cap:l.length<=c
 sm:l.length<=140737488355328
theorem Zkt {w:World}{R:Nat}{A:Option Addr}{l:List UInt8}{c at_:Nat}(h:Zo0 w R A l c at_)(s:List UInt8)(hat:at_+s.length<=l.length)(hs:∀k (h:k < s.length),l[at_+k]? =some s[k]):
  CA 32 #[.pointer (some ⟨R,0,none⟩),.string ⟨s.toArray⟩] w fun e w'=>e=.returned (.tuple #[])/\Zo0 w' R A l c (at_+s.length)/\Zac w.heap.size R w w':=by
 have c0:=h.blk.cell 0
 have c1:=h.blk.cell 1
 have c2:=h.blk.cell 2
 have hl:=h.blk.lt
 obtain⟨q,hq⟩:=exl (at_+s.length)
 have HQ:=Hd hq
 have HAT:=Hd hat
 have HC:=Hd (show∀w1,Below w.heap.size w w1->CA 79 #[.slice A l.length c,.int .i64 ((at_:Nat):Int),.string ⟨s.toArray⟩] w1 fun e w'=>e=.returned (.tuple #[.int .i64 ((q:Nat):Int),.nilIface])/\Below w1.heap.size w1 w' from fun w1 hb=>by rw[<-hq];exact Zgo l s at_ h.sm hat hs A _ c rfl w1 ((h.rd.below (hb.mono (Nat.le_of_lt hl))).more (Nat.le_trans (Nat.le_of_lt hl) hb.size)))
 have H:=Hd h
 clear hs h hq hat
 go_enter func32,ntmps32
 go_wp2_with fail
 go_region_with (go_at_call 79;refine(HC.out _ (Below.refl _ _).drew).mono ?_;rintro e w1 ⟨rfl,hb1⟩;have hk1:=H.out.blk.drew.below hb1 H.out.blk.lt;have d1:=hk1.cell 1;have d2:=hk1.cell 2;have f1:=hk1.frozen 1;have f2:=hk1.frozen 2;have dl:=hk1.lt;have HB1:=Hd hb1;have HK1:=Hd hk1;clear hb1 hk1)
 all_goals
  go_end0
  have hbw:Below w.heap.size w w1:=(Below.refl _ _).drew.trans HB1.out
  have hR:=H.out.blk.lt
  refine⟨rfl,⟨?_,?_,?_,H.out.cap,H.out.sm⟩,?_⟩
  ·have h9:=(HK1.out.set_ 1 (.int .i64 ((q:Nat):Int))).set_ 2 .nilIface
   rw[HQ.out]
   simpa using h9
  ·exact((H.out.rd.below (hbw.mono (Nat.le_of_lt hR))).setCell (p:=⟨R,1,none⟩) (Nat.le_refl _) _).setCell (p:=⟨R,2,none⟩) (Nat.le_refl _) _
  ·exact HAT.out
  ·exact((Zac.of (g:=R) hbw).setCell (p:=⟨R,1,none⟩) (.inl rfl) _).setCell (p:=⟨R,2,none⟩) (.inl rfl) _
theorem Zeu (x y:UInt8):Lib.indexByte [x] y=if x=y then 0 else-1:=by
 unfold Lib.indexByte Lib.indexByte
 by_cases h:x=y
 ·subst h;simp
 ·rw[if_neg h,if_neg (by simpa using h)];rfl
theorem Zpm {w:World}{R:Nat}{A:Option Addr}{l:List UInt8}{c at_:Nat}(h:Zo0 w R A l c at_)(x:UInt8)(s:List UInt8)(hs:∀k (h:k < s.length),l[at_+k]? =some s[k])(hx:l[at_+s.length]? =some x)(hm:∀y∈s,(Zt5.contains) y=true/\x≠y)(hl4:s.length<=400):
  CA 29 #[.pointer (some ⟨R,0,none⟩),.string ⟨#[x]⟩,fnV 30,.int .i64 400] w fun e w'=>e=.returned (.string ⟨s.toArray⟩)/\Zo0 w' R A l c (at_+s.length)/\Zac w.heap.size R w w':=by
 have c0:=h.blk.cell 0
 have c1:=h.blk.cell 1
 have c2:=h.blk.cell 2
 have f1:=h.blk.frozen 1
 have hl:=h.blk.lt
 have hsm:=h.sm
 have HS:=Hd hs
 have HX:=Hd hx
 have HM:=Hd hm
 have H:=Hd h
 have hxl:at_+s.length < l.length:=(List.getElem?_eq_some_iff.1 hx).1
 clear hs hx hm h
 go_enter func29,ntmps29
 go_wp2_with fail
 go_loopg [9] s.length (fun m i wr=>∃k:Nat,m+k=s.length/\i=.int .i64 ((at_+k:Nat):Int)/\wr=w)
 case atStart=>exact⟨0,rfl,rfl,rfl⟩
 case round=>
  obtain⟨k,hk,rfl,rfl⟩:=hrel
  obtain⟨q,hq⟩:=exl (at_+k)
  have HQ:=Hd hq
  have hql:q < l.length:=by omega
  have hqi:((q:Nat):Int) < ((l.length:Nat):Int):=by omega
  rw[hq]
  obtain⟨b,off,hA,hbB,hcl⟩:=Zbm H.out.rd hql
  have hbw:=Nat.lt_trans hbB hl
  subst hA
  by_cases hlt:k < s.length
  ·have hy0:l[q]=s[k]:=by
    have h:=HS.out k hlt
    rw[hq,List.getElem?_eq_getElem hql]at h
    exact Option.some.inj h
   obtain⟨y,hy⟩:=exl (s[k])
   obtain⟨hm1,hm2⟩:=HM.out s[k] (List.getElem_mem hlt)
   rw[hy0,hy]at hcl
   rw[hy]at hm1 hm2
   have hi:Lib.indexByte [x] y= -1:=by rw[Zeu,if_neg hm2]
   have HI:=Hd (show∀w1,CA 78 #[.string ⟨#[x]⟩,.int .u8 ((y.toNat:Nat):Int)] w1 fun e w'=>e=.returned (.int .i64 (-1))/\w1=w' from fun w1=>by rw[<-hi];exact Zch [x] y w1)
   have HY:=Hd (show∀w1,CA 30 #[.int .u8 ((y.toNat:Nat):Int)] w1 fun e w'=>e=.returned (.bool true)/\w1=w' from fun w1=>by rw[<-hm1];exact Zvl y w1)
   have hw1:wrap64 (((q:Nat):Int)-((at_:Nat):Int))=((k:Nat):Int):=by unfold wrap64;omega
   have hw2:((q:Nat):Int)-((at_:Nat):Int)=((k:Nat):Int):=by omega
   have hk4:¬(400:Int)<=((k:Nat):Int):=by omega
   have hk5:=decide_eq_false hk4
   clear hy0 hy hm1 hm2 hi hq
   go_wp2_with fail
   refine(HI.out _).mono ?_
   rintro e w1 ⟨rfl,rfl⟩
   go_wp2_with fail
   refine(HY.out _).mono ?_
   rintro e w1 ⟨rfl,rfl⟩
   go_wp2_with fail
   go_roundg (gk-1)
   case measure=>omega
   case rel=>exact⟨k+1,by omega,by rw[<-HQ.out];go_num,rfl⟩
  ·have hkl:k=s.length:=by omega
   subst hkl
   have hy0:l[q]=x:=by
    have h:=HX.out
    rw[hq,List.getElem?_eq_getElem hql]at h
    exact Option.some.inj h
   rw[hy0]at hcl
   have hi:Lib.indexByte [x] x=0:=by rw[Zeu,if_pos rfl]
   have HI:=Hd (show∀w1,CA 78 #[.string ⟨#[x]⟩,.int .u8 ((x.toNat:Nat):Int)] w1 fun e w'=>e=.returned (.int .i64 0)/\w1=w' from fun w1=>by rw[<-hi];exact Zch [x] x w1)
   have hsl:s=(l.drop at_).take s.length:=by
    apply List.ext_getElem?
    intro j
    by_cases hj:j < s.length
    ·rw[List.getElem?_take,if_pos hj,List.getElem?_drop,HS.out j hj,List.getElem?_eq_getElem hj]
    ·rw[List.getElem?_eq_none (by omega),List.getElem?_eq_none (by rw[List.length_take,List.length_drop];omega)]
   clear hy0 hi hq
   go_wp2_with fail
   refine(HI.out _).mono ?_
   rintro e w1 ⟨rfl,rfl⟩
   have hcap:=H.out.cap
   have hk0:=Zej (at_:=at_) (n:=s.length) (c:=c) H.out.rd (by omega) H.out.cap
   rw[if_neg (by omega),<-hsl]at hk0
   have k1:=Zb2 hk0.drew (c-at_)
   have hca:¬c=at_:=by omega
   have hle1:at_<=q:=by have:=HQ.out;omega
   have hle2:q<=c:=by omega
   have hle3:((at_:Nat):Int)<=((q:Nat):Int):=by omega
   have hle4:((q:Nat):Int)<=((c:Nat):Int):=by omega
   have hqa:q-at_=s.length:=by have:=HQ.out;omega
   clear hsl hk0
   go_wp2_with fail
   go_region
   go_wp2
   go_ret
   have h9:=(H.out.blk.set_ 1 (.int .i64 ((q:Nat):Int))).drew
   refine⟨rfl,⟨?_,?_,?_,H.out.cap,H.out.sm⟩,?_⟩
   ·rw[HQ.out]
    simpa using h9
   ·exact(H.out.rd.setCell (p:=⟨R,1,none⟩) (Nat.le_refl _) _).drew
   ·rw[HQ.out]
    exact Nat.le_of_lt hql
   ·exact((Zac.refl wr.heap.size R wr).setCell (p:=⟨R,1,none⟩) (.inl rfl) _).drew
theorem Zl6 {w:World}{R:Nat}{A:Option Addr}{l:List UInt8}{c at_:Nat}(h:Zo0 w R A l c at_)(x:UInt8)(s:List UInt8)(hs:∀k (h:k < s.length),l[at_+k]? =some s[k])(hx:l[at_+s.length]? =some x)(hm:∀y∈s,(Zxf) y=true/\x≠y)(hl4:s.length<=400):
  CA 29 #[.pointer (some ⟨R,0,none⟩),.string ⟨#[x]⟩,fnV 33,.int .i64 400] w fun e w'=>e=.returned (.string ⟨s.toArray⟩)/\Zo0 w' R A l c (at_+s.length)/\Zac w.heap.size R w w':=by
 have c0:=h.blk.cell 0
 have c1:=h.blk.cell 1
 have c2:=h.blk.cell 2
 have f1:=h.blk.frozen 1
 have hl:=h.blk.lt
 have hsm:=h.sm
 have HS:=Hd hs
 have HX:=Hd hx
 have HM:=Hd hm
 have H:=Hd h
 have hxl:at_+s.length < l.length:=(List.getElem?_eq_some_iff.1 hx).1
 clear hs hx hm h
 go_enter func29,ntmps29
 go_wp2_with fail
 go_loopg [9] s.length (fun m i wr=>∃k:Nat,m+k=s.length/\i=.int .i64 ((at_+k:Nat):Int)/\wr=w)
 case atStart=>exact⟨0,rfl,rfl,rfl⟩
 case round=>
  obtain⟨k,hk,rfl,rfl⟩:=hrel
  obtain⟨q,hq⟩:=exl (at_+k)
  have HQ:=Hd hq
  have hql:q < l.length:=by omega
  have hqi:((q:Nat):Int) < ((l.length:Nat):Int):=by omega
  rw[hq]
  obtain⟨b,off,hA,hbB,hcl⟩:=Zbm H.out.rd hql
  have hbw:=Nat.lt_trans hbB hl
  subst hA
  by_cases hlt:k < s.length
  ·have hy0:l[q]=s[k]:=by
    have h:=HS.out k hlt
    rw[hq,List.getElem?_eq_getElem hql]at h
    exact Option.some.inj h
   obtain⟨y,hy⟩:=exl (s[k])
   obtain⟨hm1,hm2⟩:=HM.out s[k] (List.getElem_mem hlt)
   rw[hy0,hy]at hcl
   rw[hy]at hm1 hm2
   have hi:Lib.indexByte [x] y= -1:=by rw[Zeu,if_neg hm2]
   have HI:=Hd (show∀w1,CA 78 #[.string ⟨#[x]⟩,.int .u8 ((y.toNat:Nat):Int)] w1 fun e w'=>e=.returned (.int .i64 (-1))/\w1=w' from fun w1=>by rw[<-hi];exact Zch [x] y w1)
   have HY:=Hd (show∀w1,CA 33 #[.int .u8 ((y.toNat:Nat):Int)] w1 fun e w'=>e=.returned (.bool true)/\w1=w' from fun w1=>by rw[<-hm1];exact Zo7 y w1)
   have hw1:wrap64 (((q:Nat):Int)-((at_:Nat):Int))=((k:Nat):Int):=by unfold wrap64;omega
   have hw2:((q:Nat):Int)-((at_:Nat):Int)=((k:Nat):Int):=by omega
   have hk4:¬(400:Int)<=((k:Nat):Int):=by omega
   have hk5:=decide_eq_false hk4
   clear hy0 hy hm1 hm2 hi hq
   go_wp2_with fail
   refine(HI.out _).mono ?_
   rintro e w1 ⟨rfl,rfl⟩
   go_wp2_with fail
   refine(HY.out _).mono ?_
   rintro e w1 ⟨rfl,rfl⟩
   go_wp2_with fail
   go_roundg (gk-1)
   case measure=>omega
   case rel=>exact⟨k+1,by omega,by rw[<-HQ.out];go_num,rfl⟩
  ·have hkl:k=s.length:=by omega
   subst hkl
   have hy0:l[q]=x:=by
    have h:=HX.out
    rw[hq,List.getElem?_eq_getElem hql]at h
    exact Option.some.inj h
   rw[hy0]at hcl
   have hi:Lib.indexByte [x] x=0:=by rw[Zeu,if_pos rfl]
   have HI:=Hd (show∀w1,CA 78 #[.string ⟨#[x]⟩,.int .u8 ((x.toNat:Nat):Int)] w1 fun e w'=>e=.returned (.int .i64 0)/\w1=w' from fun w1=>by rw[<-hi];exact Zch [x] x w1)
   have hsl:s=(l.drop at_).take s.length:=by
    apply List.ext_getElem?
    intro j
    by_cases hj:j < s.length
    ·rw[List.getElem?_take,if_pos hj,List.getElem?_drop,HS.out j hj,List.getElem?_eq_getElem hj]
    ·rw[List.getElem?_eq_none (by omega),List.getElem?_eq_none (by rw[List.length_take,List.length_drop];omega)]
   clear hy0 hi hq
   go_wp2_with fail
   refine(HI.out _).mono ?_
   rintro e w1 ⟨rfl,rfl⟩
   have hcap:=H.out.cap
   have hk0:=Zej (at_:=at_) (n:=s.length) (c:=c) H.out.rd (by omega) H.out.cap
   rw[if_neg (by omega),<-hsl]at hk0
   have k1:=Zb2 hk0.drew (c-at_)
   have hca:¬c=at_:=by omega
   have hle1:at_<=q:=by have:=HQ.out;omega
   have hle2:q<=c:=by omega
   have hle3:((at_:Nat):Int)<=((q:Nat):Int):=by omega
   have hle4:((q:Nat):Int)<=((c:Nat):Int):=by omega
   have hqa:q-at_=s.length:=by have:=HQ.out;omega
   clear hsl hk0
   go_wp2_with fail
   go_region
   go_wp2
   go_ret
   have h9:=(H.out.blk.set_ 1 (.int .i64 ((q:Nat):Int))).drew
   refine⟨rfl,⟨?_,?_,?_,H.out.cap,H.out.sm⟩,?_⟩
   ·rw[HQ.out]
    simpa using h9
   ·exact(H.out.rd.setCell (p:=⟨R,1,none⟩) (Nat.le_refl _) _).drew
   ·rw[HQ.out]
    exact Nat.le_of_lt hql
   ·exact((Zac.refl wr.heap.size R wr).setCell (p:=⟨R,1,none⟩) (.inl rfl) _).drew
theorem Znt {w:World}{R:Nat}{A:Option Addr}{l:List UInt8}{c at_:Nat}(h:Zo0 w R A l c at_)(x:UInt8)(s:List UInt8)(hs:∀k (h:k < s.length),l[at_+k]? =some s[k])(hx:l[at_+s.length]? =some x)(hm:∀y∈s,(Zdp.contains) y=true/\x≠y)(hl4:s.length<=400):
  CA 29 #[.pointer (some ⟨R,0,none⟩),.string ⟨#[x]⟩,fnV 81,.int .i64 400] w fun e w'=>e=.returned (.string ⟨s.toArray⟩)/\Zo0 w' R A l c (at_+s.length)/\Zac w.heap.size R w w':=by
 have c0:=h.blk.cell 0
 have c1:=h.blk.cell 1
 have c2:=h.blk.cell 2
 have f1:=h.blk.frozen 1
 have hl:=h.blk.lt
 have hsm:=h.sm
 have HS:=Hd hs
 have HX:=Hd hx
 have HM:=Hd hm
 have H:=Hd h
 have hxl:at_+s.length < l.length:=(List.getElem?_eq_some_iff.1 hx).1
 clear hs hx hm h
 go_enter func29,ntmps29
 go_wp2_with fail
 go_loopg [9] s.length (fun m i wr=>∃k:Nat,m+k=s.length/\i=.int .i64 ((at_+k:Nat):Int)/\wr=w)
 case atStart=>exact⟨0,rfl,rfl,rfl⟩
 case round=>
  obtain⟨k,hk,rfl,rfl⟩:=hrel
  obtain⟨q,hq⟩:=exl (at_+k)
  have HQ:=Hd hq
  have hql:q < l.length:=by omega
  have hqi:((q:Nat):Int) < ((l.length:Nat):Int):=by omega
  rw[hq]
  obtain⟨b,off,hA,hbB,hcl⟩:=Zbm H.out.rd hql
  have hbw:=Nat.lt_trans hbB hl
  subst hA
  by_cases hlt:k < s.length
  ·have hy0:l[q]=s[k]:=by
    have h:=HS.out k hlt
    rw[hq,List.getElem?_eq_getElem hql]at h
    exact Option.some.inj h
   obtain⟨y,hy⟩:=exl (s[k])
   obtain⟨hm1,hm2⟩:=HM.out s[k] (List.getElem_mem hlt)
   rw[hy0,hy]at hcl
   rw[hy]at hm1 hm2
   have hi:Lib.indexByte [x] y= -1:=by rw[Zeu,if_neg hm2]
   have HI:=Hd (show∀w1,CA 78 #[.string ⟨#[x]⟩,.int .u8 ((y.toNat:Nat):Int)] w1 fun e w'=>e=.returned (.int .i64 (-1))/\w1=w' from fun w1=>by rw[<-hi];exact Zch [x] y w1)
   have HY:=Hd (show∀w1,CA 81 #[.int .u8 ((y.toNat:Nat):Int)] w1 fun e w'=>e=.returned (.bool true)/\w1=w' from fun w1=>by rw[<-hm1];exact Zse y w1)
   have hw1:wrap64 (((q:Nat):Int)-((at_:Nat):Int))=((k:Nat):Int):=by unfold wrap64;omega
   have hw2:((q:Nat):Int)-((at_:Nat):Int)=((k:Nat):Int):=by omega
   have hk4:¬(400:Int)<=((k:Nat):Int):=by omega
   have hk5:=decide_eq_false hk4
   clear hy0 hy hm1 hm2 hi hq
   go_wp2_with fail
   refine(HI.out _).mono ?_
   rintro e w1 ⟨rfl,rfl⟩
   go_wp2_with fail
   refine(HY.out _).mono ?_
   rintro e w1 ⟨rfl,rfl⟩
   go_wp2_with fail
   go_roundg (gk-1)
   case measure=>omega
   case rel=>exact⟨k+1,by omega,by rw[<-HQ.out];go_num,rfl⟩
  ·have hkl:k=s.length:=by omega
   subst hkl
   have hy0:l[q]=x:=by
    have h:=HX.out
    rw[hq,List.getElem?_eq_getElem hql]at h
    exact Option.some.inj h
   rw[hy0]at hcl
   have hi:Lib.indexByte [x] x=0:=by rw[Zeu,if_pos rfl]
   have HI:=Hd (show∀w1,CA 78 #[.string ⟨#[x]⟩,.int .u8 ((x.toNat:Nat):Int)] w1 fun e w'=>e=.returned (.int .i64 0)/\w1=w' from fun w1=>by rw[<-hi];exact Zch [x] x w1)
   have hsl:s=(l.drop at_).take s.length:=by
    apply List.ext_getElem?
    intro j
    by_cases hj:j < s.length
    ·rw[List.getElem?_take,if_pos hj,List.getElem?_drop,HS.out j hj,List.getElem?_eq_getElem hj]
    ·rw[List.getElem?_eq_none (by omega),List.getElem?_eq_none (by rw[List.length_take,List.length_drop];omega)]
   clear hy0 hi hq
   go_wp2_with fail
   refine(HI.out _).mono ?_
   rintro e w1 ⟨rfl,rfl⟩
   have hcap:=H.out.cap
   have hk0:=Zej (at_:=at_) (n:=s.length) (c:=c) H.out.rd (by omega) H.out.cap
   rw[if_neg (by omega),<-hsl]at hk0
   have k1:=Zb2 hk0.drew (c-at_)
   have hca:¬c=at_:=by omega
   have hle1:at_<=q:=by have:=HQ.out;omega
   have hle2:q<=c:=by omega
   have hle3:((at_:Nat):Int)<=((q:Nat):Int):=by omega
   have hle4:((q:Nat):Int)<=((c:Nat):Int):=by omega
   have hqa:q-at_=s.length:=by have:=HQ.out;omega
   clear hsl hk0
   go_wp2_with fail
   go_region
   go_wp2
   go_ret
   have h9:=(H.out.blk.set_ 1 (.int .i64 ((q:Nat):Int))).drew
   refine⟨rfl,⟨?_,?_,?_,H.out.cap,H.out.sm⟩,?_⟩
   ·rw[HQ.out]
    simpa using h9
   ·exact(H.out.rd.setCell (p:=⟨R,1,none⟩) (Nat.le_refl _) _).drew
   ·rw[HQ.out]
    exact Nat.le_of_lt hql
   ·exact((Zac.refl wr.heap.size R wr).setCell (p:=⟨R,1,none⟩) (.inl rfl) _).drew
theorem Zpn {w:World}{R:Nat}{A:Option Addr}{l:List UInt8}{c at_:Nat}(h:Zo0 w R A l c at_)(x:UInt8)(s:List UInt8)(hs:∀k (h:k < s.length),l[at_+k]? =some s[k])(hx:l[at_+s.length]? =some x)(hm:∀y∈s,(Zf7) y=true/\x≠y)(hl4:s.length<=400):
  CA 29 #[.pointer (some ⟨R,0,none⟩),.string ⟨#[x]⟩,fnV 80,.int .i64 400] w fun e w'=>e=.returned (.string ⟨s.toArray⟩)/\Zo0 w' R A l c (at_+s.length)/\Zac w.heap.size R w w':=by
 have c0:=h.blk.cell 0
 have c1:=h.blk.cell 1
 have c2:=h.blk.cell 2
 have f1:=h.blk.frozen 1
 have hl:=h.blk.lt
 have hsm:=h.sm
 have HS:=Hd hs
 have HX:=Hd hx
 have HM:=Hd hm
 have H:=Hd h
 have hxl:at_+s.length < l.length:=(List.getElem?_eq_some_iff.1 hx).1
 clear hs hx hm h
 go_enter func29,ntmps29
 go_wp2_with fail
 go_loopg [9] s.length (fun m i wr=>∃k:Nat,m+k=s.length/\i=.int .i64 ((at_+k:Nat):Int)/\wr=w)
 case atStart=>exact⟨0,rfl,rfl,rfl⟩
 case round=>
  obtain⟨k,hk,rfl,rfl⟩:=hrel
  obtain⟨q,hq⟩:=exl (at_+k)
  have HQ:=Hd hq
  have hql:q < l.length:=by omega
  have hqi:((q:Nat):Int) < ((l.length:Nat):Int):=by omega
  rw[hq]
  obtain⟨b,off,hA,hbB,hcl⟩:=Zbm H.out.rd hql
  have hbw:=Nat.lt_trans hbB hl
  subst hA
  by_cases hlt:k < s.length
  ·have hy0:l[q]=s[k]:=by
    have h:=HS.out k hlt
    rw[hq,List.getElem?_eq_getElem hql]at h
    exact Option.some.inj h
   obtain⟨y,hy⟩:=exl (s[k])
   obtain⟨hm1,hm2⟩:=HM.out s[k] (List.getElem_mem hlt)
   rw[hy0,hy]at hcl
   rw[hy]at hm1 hm2
   have hi:Lib.indexByte [x] y= -1:=by rw[Zeu,if_neg hm2]
   have HI:=Hd (show∀w1,CA 78 #[.string ⟨#[x]⟩,.int .u8 ((y.toNat:Nat):Int)] w1 fun e w'=>e=.returned (.int .i64 (-1))/\w1=w' from fun w1=>by rw[<-hi];exact Zch [x] y w1)
   have HY:=Hd (show∀w1,CA 80 #[.int .u8 ((y.toNat:Nat):Int)] w1 fun e w'=>e=.returned (.bool true)/\w1=w' from fun w1=>by rw[<-hm1];exact Zv1 y w1)
   have hw1:wrap64 (((q:Nat):Int)-((at_:Nat):Int))=((k:Nat):Int):=by unfold wrap64;omega
   have hw2:((q:Nat):Int)-((at_:Nat):Int)=((k:Nat):Int):=by omega
   have hk4:¬(400:Int)<=((k:Nat):Int):=by omega
   have hk5:=decide_eq_false hk4
   clear hy0 hy hm1 hm2 hi hq
   go_wp2_with fail
   refine(HI.out _).mono ?_
   rintro e w1 ⟨rfl,rfl⟩
   go_wp2_with fail
   refine(HY.out _).mono ?_
   rintro e w1 ⟨rfl,rfl⟩
   go_wp2_with fail
   go_roundg (gk-1)
   case measure=>omega
   case rel=>exact⟨k+1,by omega,by rw[<-HQ.out];go_num,rfl⟩
  ·have hkl:k=s.length:=by omega
   subst hkl
   have hy0:l[q]=x:=by
    have h:=HX.out
    rw[hq,List.getElem?_eq_getElem hql]at h
    exact Option.some.inj h
   rw[hy0]at hcl
   have hi:Lib.indexByte [x] x=0:=by rw[Zeu,if_pos rfl]
   have HI:=Hd (show∀w1,CA 78 #[.string ⟨#[x]⟩,.int .u8 ((x.toNat:Nat):Int)] w1 fun e w'=>e=.returned (.int .i64 0)/\w1=w' from fun w1=>by rw[<-hi];exact Zch [x] x w1)
   have hsl:s=(l.drop at_).take s.length:=by
    apply List.ext_getElem?
    intro j
    by_cases hj:j < s.length
    ·rw[List.getElem?_take,if_pos hj,List.getElem?_drop,HS.out j hj,List.getElem?_eq_getElem hj]
    ·rw[List.getElem?_eq_none (by omega),List.getElem?_eq_none (by rw[List.length_take,List.length_drop];omega)]
   clear hy0 hi hq
   go_wp2_with fail
   refine(HI.out _).mono ?_
   rintro e w1 ⟨rfl,rfl⟩
   have hcap:=H.out.cap
   have hk0:=Zej (at_:=at_) (n:=s.length) (c:=c) H.out.rd (by omega) H.out.cap
   rw[if_neg (by omega),<-hsl]at hk0
   have k1:=Zb2 hk0.drew (c-at_)
   have hca:¬c=at_:=by omega
   have hle1:at_<=q:=by have:=HQ.out;omega
   have hle2:q<=c:=by omega
   have hle3:((at_:Nat):Int)<=((q:Nat):Int):=by omega
   have hle4:((q:Nat):Int)<=((c:Nat):Int):=by omega
   have hqa:q-at_=s.length:=by have:=HQ.out;omega
   clear hsl hk0
   go_wp2_with fail
   go_region
   go_wp2
   go_ret
   have h9:=(H.out.blk.set_ 1 (.int .i64 ((q:Nat):Int))).drew
   refine⟨rfl,⟨?_,?_,?_,H.out.cap,H.out.sm⟩,?_⟩
   ·rw[HQ.out]
    simpa using h9
   ·exact(H.out.rd.setCell (p:=⟨R,1,none⟩) (Nat.le_refl _) _).drew
   ·rw[HQ.out]
    exact Nat.le_of_lt hql
   ·exact((Zac.refl wr.heap.size R wr).setCell (p:=⟨R,1,none⟩) (.inl rfl) _).drew
theorem Zer {w:World}{R:Nat}{A:Option Addr}{l:List UInt8}{c at_:Nat}(h:Zo0 w R A l c at_):
  CA 31 #[.pointer (some ⟨R,0,none⟩),.bool true] w fun e w'=>e=.returned (.tuple #[])/\w=w':=by
 have c2:=h.blk.cell 2
 have hl:=h.blk.lt
 clear h
 go_enter func31,ntmps31
 go_wp2
 go_end0
 exact⟨rfl,rfl⟩
theorem Zac.next2 {w w1 w2:World}{R:Nat}(h:Zac w.heap.size R w w1)(k:Zac w1.heap.size R w1 w2):Zac w.heap.size R w w2:=
 h.trans ⟨k.os,k.tape,k.output,k.size,fun i hi hg=>k.block i (Nat.lt_of_lt_of_le hi h.size) hg⟩
theorem Zo0.next {w w1:World}{R:Nat}{A:Option Addr}{l:List UInt8}{c at_:Nat}(h:Zo0 w R A l c at_)(hb:Below w.heap.size w w1):Zo0 w1 R A l c at_:=
 ⟨h.blk.below hb h.blk.lt,h.rd.below (hb.mono (Nat.le_of_lt h.blk.lt)),h.le,h.cap,h.sm⟩
theorem Zyq {w:World}{R:Nat}{A:Option Addr}{l:List UInt8}{c at_:Nat}(h:Zo0 w R A l c at_)(s:List UInt8)(hs:∀k (h:k < ([58,32]++s++[13,10]:List UInt8).length),l[at_+k]? =some ([58,32]++s++[13,10]:List UInt8)[k])(hat:at_+(s.length+4)<=l.length)(hp:Zbp s=true)(hf:∀y,s.head? =some y->y≠32)(y0:UInt8)(hy0:l[at_+2]? =some y0)(hy1:y0≠32):
  CA 34 #[.pointer (some ⟨R,0,none⟩)] w fun e w'=>e=.returned (.string ⟨s.toArray⟩)/\Zo0 w' R A l c (at_+(s.length+4))/\Zac w.heap.size R w w':=by
 have h1:∀k (h:k < ([58,32]:List UInt8).length),l[at_+k]? =some ([58,32]:List UInt8)[k]:=by
  intro k hk
  have hk2:k < 2:=hk
  have:=hs k (by simp;omega)
  rw[this]
  congr 1
  rw[List.getElem_append_left (by simp;omega),List.getElem_append_left (by simpa using hk2)]
 have HM1:=Hd (Zkt h [58,32] (by simp;omega) h1)
 have HY0:=Hd hy0
 have HY1:=Hd hy1
 clear h1 hy0 hy1
 go_enter func34,ntmps34
 go_wp2_with fail
 refine Mo HM1 ?_
 rintro e w1 ⟨rfl,hr1,hb1⟩
 have c0:=hr1.blk.cell 0
 have c1:=hr1.blk.cell 1
 have c2:=hr1.blk.cell 2
 have hl1:=hr1.blk.lt
 obtain⟨q,hq⟩:=exl (at_+([58,32]:List UInt8).length)
 rw[hq]at c1
 have hql:q < l.length:=by simp at hq;omega
 have hqi:((q:Nat):Int) < ((l.length:Nat):Int):=by omega
 obtain⟨b,off,hA,hbB,hcl⟩:=Zbm hr1.rd hql
 have hyq:l[q]=y0:=by
  have h:=HY0.out
  rw[show at_+2=q from hq,List.getElem?_eq_getElem hql]at h
  exact Option.some.inj h
 rw[hyq]at hcl
 have hbw:=Nat.lt_trans hbB hl1
 subst hA
 obtain⟨n0,hn0⟩:=exl (y0.toNat)
 rw[hn0]at hcl
 have hn1:n0≠32:=fun e=>HY1.out (UInt8.toNat_inj.1 (by rw[hn0,e];rfl))
 have hn2:¬((n0:Nat):Int)=32:=by omega
 have hn3:(((n0:Nat):Int)==32)=false:=by simpa using hn2
 have HB1:=Hd hb1
 have HR1:=Hd hr1
 have HSS:=Hd hs
 have HQ:=Hd hq
 have HP:=Hd hp
 clear hyq hq hb1 hr1 hs hp
 go_wp2_with fail
 go_region
 have hq3:at_+2=q:=HQ.out
 have hmid:∀k (h:k < s.length),l[q+k]? =some s[k]:=by
  intro k hk
  have:=HSS.out (2+k) (by simp;omega)
  rw[<-hq3,show at_+2+k=at_+(2+k)by omega,this]
  congr 1
  rw[List.getElem_append_left (by simp;omega),List.getElem_append_right (by simp)]
  simp
 have hend:∀k (h:k < ([13,10]:List UInt8).length),l[q+s.length+k]? =some ([13,10]:List UInt8)[k]:=by
  intro k hk
  have hk2:k < 2:=hk
  have:=HSS.out (2+s.length+k) (by simp;omega)
  rw[<-hq3,show at_+2+s.length+k=at_+(2+s.length+k)by omega,this]
  congr 1
  rw[List.getElem_append_right (by simp;omega)]
  congr 1
  simp
  omega
 have hx:l[q+s.length]? =some 13:=by
  have:=hend 0 (by decide)
  simpa using this
 have hpp:=HP.out
 have hall:s.all Zf7=true:=by
  unfold Zbp at hpp
  simp only[Bool.and_eq_true]at hpp
  exact hpp.2
 have hlen:s.length<=400:=by
  unfold Zbp at hpp
  simp only[Bool.and_eq_true,decide_eq_true_eq]at hpp
  exact hpp.1.1
 have hR2:Zo0 w1.drew R (some ⟨b,off,none⟩) l c q:=by
  have h:=HR1.out
  rw[HQ.out]at h
  exact h.next ((Below.refl _ _).drew)
 have HU:=Hd (Zpn hR2 13 s hmid hx (fun y hy=>⟨List.all_eq_true.1 hall y hy,fun e=>by
  have:=List.all_eq_true.1 hall y hy
  rw[<-e]at this
  cases this⟩) hlen)
 have HE:=Hd hend
 have HLN:=Hd hlen
 clear hmid hend hx hpp hall hR2 hq3 hlen
 go_wp2_with fail
 refine Mo HU ?_
 rintro e w2 ⟨rfl,hr2,hb2⟩
 have HR2:=Hd hr2
 have HB2:=Hd (HB1.out.next2 ((Zac.refl w1.heap.size R w1).drew.next2 hb2))
 have HPL:=Hd (show CA 73 #[.string ⟨s.toArray⟩] w2 fun e w'=>e=.returned (.bool true)/\Below w2.heap.size w2 w' from by rw[<-HP.out];exact Zfd s (by have:=HLN.out;omega) w2)
 clear hr2 hb2
 go_wp2_with fail
 refine Mo HPL ?_
 rintro e w3 ⟨rfl,hb3⟩
 have HR3:=Hd (HR2.out.next hb3)
 have HB3:=Hd (HB2.out.next2 (Zac.of hb3))
 clear hb3
 go_wp2_with fail
 refine(Zer HR3.out).mono ?_
 rintro e w4 ⟨rfl,rfl⟩
 have HM2:=Hd (Zkt HR3.out [13,10] (by have:=HQ.out;simp at this⊢;omega) HE.out)
 go_wp2_with fail
 refine Mo HM2 ?_
 rintro e w5 ⟨rfl,hr5,hb5⟩
 have HR5:=Hd hr5
 have HB5:=Hd (HB3.out.next2 hb5)
 clear hr5 hb5
 go_wp2
 go_ret
 refine⟨rfl,?_,HB5.out⟩
 have h:=HR5.out
 rwa [show q+s.length+([13,10]:List UInt8).length=at_+(s.length+4)by have:=HQ.out;simp at this⊢;omega]at h
structure RdR (w:World)(R:Nat)(A:Option Addr)(l:List UInt8)(c at_:Nat)(rest:List UInt8):Prop where
 rd:Zo0 w R A l c at_
 eq:l.drop at_=rest
theorem Zd6 {l s r:List UInt8}{a:Nat}(h:l.drop a=s++r):∀k (hk:k < s.length),l[a+k]? =some s[k]:=by
 intro k hk
 rw[<-List.getElem?_drop,h,List.getElem?_append_left hk,List.getElem?_eq_getElem hk]
theorem Zeo {l s r:List UInt8}{a:Nat}(h:l.drop a=s++r):l.drop (a+s.length)=r:=by
 rw[<-List.drop_drop,h]
 simp
theorem Zsy {l s r:List UInt8}{a:Nat}(h:l.drop a=s++r)(ha:a<=l.length):a+s.length<=l.length:=by
 have:=congrArg List.length h
 rw[List.length_drop,List.length_append]at this
 omega
theorem Zhn (p:UInt8->Bool):∀(m:List UInt8) {y:UInt8},(m.dropWhile p).head? =some y->p y=false
 | [],_,h=>by simp at h
 | a::m,y,h=>by
  rw[List.dropWhile_cons]at h
  by_cases ha:p a=true
  ·rw[if_pos ha]at h
   exact Zhn p m h
  ·rw[if_neg ha]at h
   simp only[List.head?_cons,Option.some.injEq]at h
   rw[<-h]
   simpa using ha
theorem Zvk {s:List UInt8}{y:UInt8}(h:Lib.trimB s 32=s)(hy:s.head? =some y):y≠32:=by
 rw[<-h]at hy
 have:=Zhn _ _ hy
 simpa using this
section
variable {w w1:World} {R c at_:Nat} {A:Option Addr} {l rest:List UInt8}
theorem RdR.next (h:RdR w R A l c at_ rest)(hb:Below w.heap.size w w1):RdR w1 R A l c at_ rest:=⟨h.rd.next hb,h.eq⟩
theorem RdR.len (h:RdR w R A l c at_ rest):at_+rest.length=l.length:=by
 have:=congrArg List.length h.eq
 have:=h.rd.le
 rw[List.length_drop]at*
 omega
theorem RdR.head (h:RdR w R A l c at_ rest){x:UInt8}{r:List UInt8}(e:rest=x::r):∃b off,A=some ⟨b,off,none⟩/\b < R/\at_ < l.length/\w.cell? ⟨b,off+at_,none⟩=some (.int .u8 ((x.toNat:Nat):Int)):=by
 have h1:=h.len
 have h2:at_ < l.length:=by rw[e]at h1;simp at h1;omega
 obtain⟨b,off,hA,hb,hc⟩:=Zbm h.rd.rd h2
 have h3:l[at_]=x:=by
  have:=Zd6 (s:=[x]) (r:=r) (h.eq.trans e) 0 (by simp)
  rw[Nat.add_zero,List.getElem?_eq_getElem h2]at this
  simpa using this
 exact⟨b,off,hA,hb,h2,by rw[<-h3];exact hc⟩
theorem Zcb {s:List UInt8}(h:RdR w R A l c at_ (s++rest)):
  CA 32 #[.pointer (some ⟨R,0,none⟩),.string ⟨s.toArray⟩] w fun e w'=>e=.returned (.tuple #[])/\(∃a2,RdR w' R A l c a2 rest)/\Zac w.heap.size R w w':=by
 refine(Zkt h.rd s (Zsy h.eq h.rd.le) (Zd6 h.eq)).mono ?_
 rintro e w' ⟨he,h1,h2⟩
 exact⟨he,⟨_,h1,Zeo h.eq⟩,h2⟩
theorem Zi5 {s:List UInt8}{x:UInt8}(h:RdR w R A l c at_ (s++x::rest)):l[at_+s.length]? =some x:=by
 have:=Zd6 (s:=s++[x]) (r:=rest) (by rw[h.eq];simp) s.length (by simp)
 simpa using this
theorem Zrq {s:List UInt8}{x:UInt8}(h:RdR w R A l c at_ (s++x::rest))(hm:∀y∈s,Zt5.contains y=true/\x≠y)(hl4:s.length<=400):
  CA 29 #[.pointer (some ⟨R,0,none⟩),.string ⟨#[x]⟩,fnV 30,.int .i64 400] w fun e w'=>e=.returned (.string ⟨s.toArray⟩)/\(∃a2,RdR w' R A l c a2 (x::rest))/\Zac w.heap.size R w w':=by
 refine(Zpm h.rd x s (Zd6 h.eq) (Zi5 h) hm hl4).mono ?_
 rintro e w' ⟨he,h1,h2⟩
 exact⟨he,⟨_,h1,Zeo h.eq⟩,h2⟩
theorem Zni {s:List UInt8}{x:UInt8}(h:RdR w R A l c at_ (s++x::rest))(hm:∀y∈s,Zxf y=true/\x≠y)(hl4:s.length<=400):
  CA 29 #[.pointer (some ⟨R,0,none⟩),.string ⟨#[x]⟩,fnV 33,.int .i64 400] w fun e w'=>e=.returned (.string ⟨s.toArray⟩)/\(∃a2,RdR w' R A l c a2 (x::rest))/\Zac w.heap.size R w w':=by
 refine(Zl6 h.rd x s (Zd6 h.eq) (Zi5 h) hm hl4).mono ?_
 rintro e w' ⟨he,h1,h2⟩
 exact⟨he,⟨_,h1,Zeo h.eq⟩,h2⟩
theorem Zgb {s:List UInt8}{x:UInt8}(h:RdR w R A l c at_ (s++x::rest))(hm:∀y∈s,Zdp.contains y=true/\x≠y)(hl4:s.length<=400):
  CA 29 #[.pointer (some ⟨R,0,none⟩),.string ⟨#[x]⟩,fnV 81,.int .i64 400] w fun e w'=>e=.returned (.string ⟨s.toArray⟩)/\(∃a2,RdR w' R A l c a2 (x::rest))/\Zac w.heap.size R w w':=by
 refine(Znt h.rd x s (Zd6 h.eq) (Zi5 h) hm hl4).mono ?_
 rintro e w' ⟨he,h1,h2⟩
 exact⟨he,⟨_,h1,Zeo h.eq⟩,h2⟩
theorem Zml {s:List UInt8}(h:RdR w R A l c at_ ([58,32]++s++[13,10]++rest))(hp:Zbp s=true):
  CA 34 #[.pointer (some ⟨R,0,none⟩)] w fun e w'=>e=.returned (.string ⟨s.toArray⟩)/\(∃a2,RdR w' R A l c a2 rest)/\Zac w.heap.size R w w':=by
 have hh:∀y,s.head? =some y->y≠32:=by
  rintro y hy rfl
  unfold Zbp at hp
  simp only[Bool.and_eq_true,decide_eq_true_eq]at hp
  exact Zvk hp.1.2 hy rfl
 have hg:=Zd6 h.eq
 obtain⟨y0,h0,h1⟩:∃y0,l[at_+2]? =some y0/\y0≠32:=by
  have h2:=hg 2 (by simp)
  cases s with
  | nil=>exact⟨13,by simpa using h2,by decide⟩
  | cons y t=>exact⟨y,by simpa using h2,hh y rfl⟩
 have hle:=Zsy h.eq h.rd.le
 refine(Zyq h.rd s hg (by simp at hle;omega) hp hh y0 h0 h1).mono ?_
 rintro e w' ⟨he,h3,h4⟩
 refine⟨he,⟨_,h3,?_⟩,h4⟩
 have:=Zeo h.eq
 rw[<-this]
 congr 1
 simp
end
def Zrf (l:List UInt8):Nat:=l.foldl (fun n c=>10*n+(c.toNat-48)) 0
theorem Zlg (l:List UInt8)(c:UInt8):Zrf (l++[c])=10*Zrf l+(c.toNat-48):=by simp[Zrf]
theorem digV_le (a b:List UInt8):Zrf a<=Zrf (a++b):=by
 induction b generalizing a with
 | nil=>simp
 | cons c b ih=>
  have h1:=ih (a++[c])
  rw[Zlg,List.append_assoc]at h1
  simp only[List.singleton_append]at h1
  omega
theorem Zqr (l:List UInt8)(k:Nat):Zrf (l.take k)<=Zrf l:=by
 have:=digV_le (l.take k) (l.drop k)
 rwa [List.take_append_drop]at this
theorem Zk5 (u:Nat)(h:u < 10):(UInt8.ofNat (48+u)).toNat=48+u:=by
 simp
 omega
theorem digV_dec (u:Nat):Zrf (Lib.decDigits u)=u:=by
 induction u using Nat.strongRecOn with
 | _ u ih=>
  rw[Lib.decDigits]
  split
  ·rename_i h
   show 10*0+((UInt8.ofNat (48+u)).toNat-48)=u
   rw[Zk5 u h]
   omega
  ·rename_i h
   rw[Zlg,ih (u / 10) (by omega),Zk5 _ (Nat.mod_lt _ (by decide))]
   omega
theorem Z0u (u:Nat):∀y∈Lib.decDigits u,48<=y.toNat/\y.toNat<=57:=by
 induction u using Nat.strongRecOn with
 | _ u ih=>
  rw[Lib.decDigits]
  split
  ·rename_i h
   intro y hy
   rw[List.mem_singleton]at hy
   rw[hy,Zk5 u h]
   omega
  ·rename_i h
   intro y hy
   rcases List.mem_append.1 hy with h1 | h1
   ·exact ih (u / 10) (by omega) y h1
   ·rw[List.mem_singleton]at h1
    have:=Nat.mod_lt u (show 0 < 10 by decide)
    rw[h1,Zk5 _ this]
    omega
theorem Z0v (u:Nat)(h:1<=u):∃y t,Lib.decDigits u=y::t/\49<=y.toNat:=by
 induction u using Nat.strongRecOn with
 | _ u ih=>
  rw[Lib.decDigits]
  split
  ·rename_i h1
   exact⟨_,_,rfl,by rw[Zk5 u h1];omega⟩
  ·rename_i h1
   obtain⟨y,t,e,hy⟩:=ih (u / 10) (by omega) (by omega)
   exact⟨y,t++_,by rw[e];rfl,hy⟩
theorem Zs0 (u:Nat)(k:Nat)(h:u < 10 ^ (k+1)):(Lib.decDigits u).length<=k+1:=by
 induction k generalizing u with
 | zero=>
  rw[Lib.decDigits,dif_pos (by omega)]
  simp
 | succ k ih=>
  rw[Lib.decDigits]
  split
  ·simp
  ·rename_i h1
   rw[List.length_append]
   have:=ih (u / 10) (by rw[Nat.pow_succ]at h;omega)
   simp
   omega
def Zjz :List UInt8:=[32,69,68,71,69,47,49,13,10,104,111,115,116]
def lenL (n:Nat):List UInt8:=if n=0 then []else Zdf++([58,32]++(Lib.decDigits n++[13,10]))
def Zjt (m p h:List UInt8)(fs:List Fld)(b:List UInt8):List UInt8:=m++(32::(p++(Zjz++([58,32]++(h++([13,10]++(Zbg fs++(lenL b.length++([13,10]++b)))))))))
theorem lenL_len (n:Nat)(h:n<=8000):(lenL n).length<=16:=by
 unfold lenL
 split
 ·simp
 ·have:=Zs0 n 3 (by omega)
  simp[Zdf]
  omega
theorem Zox (m p h:List UInt8)(fs:List Fld)(b:List UInt8)(hm:m.length<=400)(hp:p.length<=400)(hh:h.length<=400)(hf:fs.length<=40/\∀f∈fs,f.1.length<=400/\f.2.length<=400)(hb:b.length<=8000):(Zjt m p h fs b).length<=50000:=by
 have h1:=Zgx fs hf.2
 have h2:=lenL_len b.length hb
 have h3:=hf.1
 simp[Zjt,Zjz]
 omega
theorem Z0r {y N N2:Nat}(g1:48<=y)(g2:y<=57)(h:N2=10*N+(y-48))(h8:N2<=8000):
  (((y:Nat):Int)==13)=false/\decide (((y:Nat):Int) < 48)=false/\decide ((57:Int) < ((y:Nat):Int))=false/\((N:Nat):Int)<=8000/\(0:Int)<=((N:Nat):Int)/\(48:Int)<=((y:Nat):Int)/\((y:Nat):Int)<=57/\
   ¬(8000:Int) < 10*((N:Nat):Int)+(((y:Nat):Int)-48)/\decide ((8000:Int) < 10*((N:Nat):Int)+(((y:Nat):Int)-48))=false:=
 ⟨beq_eq_false_iff_ne.2 (by omega),decide_eq_false (by omega),decide_eq_false (by omega),by omega,by omega,by omega,by omega,by omega,decide_eq_false (by omega)⟩
theorem dig_sum {y N N2:Nat}(g1:48<=y)(h:N2=10*N+(y-48)):10*((N:Nat):Int)+(((y:Nat):Int)-48)=((N2:Nat):Int):=by omega
theorem q_zero {q a k:Nat}(h:a+k=q)(hk:k < 1):(((q:Nat):Int)==((a:Nat):Int)+1)=false/\(((q:Nat):Int)==((a:Nat):Int))=true:=
 ⟨beq_eq_false_iff_ne.2 (by omega),beq_iff_eq.2 (by omega)⟩
theorem q_one {q a k:Nat}(h:a+k=q)(hk:k=1):(((q:Nat):Int)==((a:Nat):Int)+1)=true/\(((q:Nat):Int)==((a:Nat):Int))=false:=
 ⟨beq_iff_eq.2 (by omega),beq_eq_false_iff_ne.2 (by omega)⟩
theorem q_two {q a k:Nat}(h:a+k=q)(hk:2<=k):(((q:Nat):Int)==((a:Nat):Int)+1)=false/\(((q:Nat):Int)==((a:Nat):Int))=false:=
 ⟨beq_eq_false_iff_ne.2 (by omega),beq_eq_false_iff_ne.2 (by omega)⟩
theorem Zuo {y n:Nat}(h:y≠n):(((y:Nat):Int)==((n:Nat):Int))=false:=beq_eq_false_iff_ne.2 (by omega)
theorem Zsz {w:World}{R c at_:Nat}{A:Option Addr}{l rest:List UInt8}(v:Nat)(h1:1<=v)(h8:v<=8000)(h:RdR w R A l c at_ ([58,32]++(Lib.decDigits v++([13,10]++rest)))):
  CA 82 #[.pointer (some ⟨R,0,none⟩),.int .i64 1,.int .i64 8000] w fun e w'=>e=.returned (.int .i64 ((v:Nat):Int))/\(∃a2,RdR w' R A l c a2 rest)/\Zac w.heap.size R w w':=by
 have HM:=Hd (Zcb h)
 have hle:=Zs0 v 3 (by omega)
 obtain⟨y1,t1,hfst,hy1⟩:=Z0v v h1
 have hrg:=Z0u v
 have hval:=digV_dec v
 have hpre:∀k,Zrf ((Lib.decDigits v).take k)<=8000:=fun k=>Nat.le_trans (Zqr _ k) (by rw[hval];exact h8)
 obtain⟨ds,hds⟩:=exl (Lib.decDigits v)
 rw[hds]at HM hle hfst hrg hval hpre
 have HF:=Hd hfst
 have HRG:=Hd hrg
 have HV:=Hd hval
 have HP:=Hd hpre
 have hpos:1<=ds.length:=by rw[hfst];simp
 clear h hfst hrg hval hpre hds
 go_enter func82,ntmps82
 go_wp2_with fail
 refine Mo HM ?_
 rintro e w1 ⟨rfl,⟨at1,hr1⟩,hb1⟩
 have c0:=hr1.rd.blk.cell 0
 have c1:=hr1.rd.blk.cell 1
 have c2:=hr1.rd.blk.cell 2
 have f1:=hr1.rd.blk.frozen 1
 have hl1:=hr1.rd.blk.lt
 have hln:=hr1.len
 have hsm:=hr1.rd.sm
 rw[List.length_append,List.length_append]at hln
 simp only[List.length_cons,List.length_nil]at hln
 have hlt0:at1+ds.length+2<=l.length:=by omega
 clear hln
 have HB1:=Hd hb1
 have HR1:=Hd hr1
 clear hb1 hr1
 go_wp2_with fail
 go_loopg [6,7] ds.length (fun m n i wr=>∃k:Nat,m+k=ds.length/\n=.int .i64 ((Zrf (ds.take k):Nat):Int)/\i=.int .i64 ((at1+k:Nat):Int)/\wr=w1)
 case atStart=>exact⟨0,rfl,rfl,rfl,rfl⟩
 case round=>
  obtain⟨k,hk,rfl,rfl,rfl⟩:=hrel
  obtain⟨q,hq⟩:=exl (at1+k)
  have hql:q < l.length:=by omega
  have hqi:¬((l.length:Nat):Int)<=((q:Nat):Int):=by omega
  have hqi2:=decide_eq_false hqi
  obtain⟨b,off,hA,hbB,hcl⟩:=Zbm HR1.out.rd.rd hql
  have hbw:=Nat.lt_trans hbB hl1
  subst hA
  rw[hq]
  by_cases hlt:k < ds.length
  ·have hy0:l[q]=ds[k]:=by
    have h:=Zd6 HR1.out.eq k hlt
    rw[hq,List.getElem?_eq_getElem hql]at h
    exact Option.some.inj h
   obtain⟨g1,g2⟩:=HRG.out ds[k] (List.getElem_mem hlt)
   have hsn:Zrf (ds.take (k+1))=10*Zrf (ds.take k)+(ds[k].toNat-48):=by rw[List.take_succ_eq_append_getElem hlt,Zlg]
   have hp1:=HP.out (k+1)
   obtain⟨N2,hN2⟩:=exl (Zrf (ds.take (k+1)))
   have hz:k=0->49<=ds[k].toNat:=by
    rintro rfl
    have h:=HF.out
    have:ds[0]=y1:=by simp[h]
    rw[this];exact hy1
   have hone:k=1->1<=Zrf (ds.take k):=by
    rintro rfl
    have h:=HF.out
    rw[h]
    show 1<=10*0+(y1.toNat-48)
    omega
   obtain⟨N,hN⟩:=exl (Zrf (ds.take k))
   rw[hN]at hone hsn⊢
   rw[hN2]at hsn hp1
   obtain⟨y,hy⟩:=exl (ds[k].toNat)
   rw[hy0,hy]at hcl
   rw[hy]at g1 g2 hz hsn
   obtain⟨e13,e48,e57,u1,u2,u3,u4,u5,u6⟩:=Z0r g1 g2 hsn hp1
   have HSU:=Hd (dig_sum g1 hsn)
   have HN2:=Hd hN2
   have HQ:=Hd hq
   have ha1:((at1:Nat):Int)<=140737488355328:=by omega
   have ha0:(0:Int)<=((at1:Nat):Int):=by omega
   have hkk:=hk
   clear hy0 hN hN2 hy hsn
   rcases Nat.lt_or_ge k 1 with hk0 | hk1
   ·obtain⟨e1,e2⟩:=q_zero hq hk0
    have e3:(((y:Nat):Int)==48)=false:=Zuo (n:=48) (by have:=hz (by omega);omega)
    clear hq hz hone
    go_wp2_with fail
    go_roundg (gk-1)
    case measure=>omega
    case rel=>exact⟨k+1,by omega,by rw[HN2.out,<-HSU.out],by rw[<-HQ.out];go_num,rfl⟩
   ·rcases Nat.lt_or_ge k 2 with hk2 | hk2
    ·obtain⟨e1,e2⟩:=q_one hq (show k=1 by omega)
     have e3:(((N:Nat):Int)==0)=false:=Zuo (n:=0) (by have:=hone (by omega);omega)
     clear hq hz hone
     go_wp2_with fail
     go_roundg (gk-1)
     case measure=>omega
     case rel=>exact⟨k+1,by omega,by rw[HN2.out,<-HSU.out],by rw[<-HQ.out];go_num,rfl⟩
    ·obtain⟨e1,e2⟩:=q_two hq hk2
     clear hq hz hone
     go_wp2_with fail
     go_roundg (gk-1)
     case measure=>omega
     case rel=>exact⟨k+1,by omega,by rw[HN2.out,<-HSU.out],by rw[<-HQ.out];go_num,rfl⟩
  ·have hkl:k=ds.length:=by omega
   subst hkl
   have hy0:l[q]=13:=by
    have h:=Zd6 (s:=ds++[13]) (r:=10::rest) (by rw[HR1.out.eq];simp) ds.length (by simp)
    rw[hq,List.getElem?_eq_getElem hql]at h
    simpa using h
   rw[hy0]at hcl
   have hv:Zrf (ds.take ds.length)=v:=by rw[List.take_length];exact HV.out
   rw[hv]
   have e1:decide (((at1:Nat):Int) < ((q:Nat):Int))=true:=by simp;omega
   have e2:((at1:Nat):Int) < ((q:Nat):Int):=by omega
   have e3:(1:Int)<=((v:Nat):Int):=by omega
   have e4:=decide_eq_true e3
   have hrest:RdR (wr.setCell ⟨R,1,none⟩ (.int .i64 ((q:Nat):Int))) R (some ⟨b,off,none⟩) l c q ([13,10]++rest):=by
    refine⟨⟨?_,HR1.out.rd.rd.setCell (p:=⟨R,1,none⟩) (Nat.le_refl _) _,Nat.le_of_lt hql,HR1.out.rd.cap,HR1.out.rd.sm⟩,?_⟩
    ·have:=HR1.out.rd.blk.set_ 1 (.int .i64 ((q:Nat):Int))
     simpa using this
    ·rw[<-hq]
     exact Zeo HR1.out.eq
   have HN:=Hd (Zer hrest.rd)
   have HM2:=Hd (Zcb hrest)
   have HB2:=Hd ((HB1.out.trans ((Zac.refl wr.heap.size R wr).setCell (p:=⟨R,1,none⟩) (.inl rfl) (.int .i64 ((q:Nat):Int)) |> fun h=>⟨h.os,h.tape,h.output,h.size,fun i hi hg=>h.block i (Nat.lt_of_lt_of_le hi HB1.out.size) hg⟩)))
   clear hy0 hv hrest hq
   go_wp2_with fail
   refine Mo HN ?_
   rintro e w2 ⟨rfl,rfl⟩
   go_wp2_with fail
   refine Mo HM2 ?_
   rintro e w3 ⟨rfl,⟨a3,hr3⟩,hb3⟩
   have HR3:=Hd hr3
   have HB3:=Hd (HB2.out.next2 hb3)
   clear hr3 hb3
   go_wp2
   go_ret
   exact⟨rfl,⟨a3,HR3.out⟩,HB3.out⟩
end
end Go.Proofs.YtbgnggkgmeagkaaGreatDoor
