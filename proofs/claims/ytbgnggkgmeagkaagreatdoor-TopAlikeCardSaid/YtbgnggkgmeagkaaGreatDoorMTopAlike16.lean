/-
  A part of the proof of TopAlike: each theorem states its own conditions.
-/
import Derived.Test.YtbgnggkgmeagkaaGreatDoorMTopAlike15
import Derived.Lib.Split
import Derived.Lib.SplitLaws
import Derived.IntWalk
import Derived.Laws.Entries
import Derived.Lib.AppendIntMem
import Derived.Lib.ItoaMem
import Derived.Test.YtbgnggkgmeagkaaGreatDoorMTopAlike06
set_option linter.unusedSimpArgs false
set_option linter.unusedVariables false
set_option maxRecDepth 100000
set_option maxHeartbeats 16000000
namespace Go.Proofs.YtbgnggkgmeagkaaGreatDoor
open Go.Proofs.Tryz
section
open Go.RowKit
structure Znc (w wr:World)(R:Nat)(A:Option Addr)(l:List UInt8)(c:Nat)(xs:List Fld)(v:Value)(rest:List UInt8):Prop where
 own:wr.ownsRow w.heap.size 41 2 v xs.length (fvs xs)
 rd:∃a2,RdR wr R A l c a2 rest
 bb:Zac w.heap.size R w wr
 lt:R < w.heap.size
theorem Znc.next {w wr w':World}{R c:Nat}{A:Option Addr}{l rest rest':List UInt8}{xs:List Fld}{v:Value}(h:Znc w wr R A l c xs v rest)(hr:∃a2,RdR w' R A l c a2 rest')(hb:Zac wr.heap.size R wr w'):Znc w w' R A l c xs v rest':=
 ⟨Zey h.own h.lt hb,hr,h.bb.next2 hb,h.lt⟩
theorem Zet {l:List UInt8}(h:Zhj l=true):l≠[]/\l.length<=400/\∀y∈l,Zdp.contains y=true/\(58:UInt8)≠y:=by
 unfold Zhj Zgi at h
 simp only[Bool.and_eq_true,decide_eq_true_eq]at h
 obtain⟨⟨⟨h0,h1⟩,_⟩,h2⟩:=h
 refine⟨h0,h1,fun y hy=> ?_⟩
 have:=List.all_eq_true.1 h2 y hy
 refine⟨this,?_⟩
 rintro rfl
 revert this
 decide
def Zwq (f:Fld):Prop:=Zhj f.1=true/\Zbp f.2=true/\Zwf f.1=false
theorem Zdu :∀(l:List Fld),Zok l=0->∀f∈l,Zwq f
 | [],_,f,hf=>by cases hf
 | g::l,h,f,hf=>by
  unfold Zok at h
  split at h
  ·cases h
  ·split at h
   ·cases h
   ·rename_i h1 h2
    simp only[Bool.and_eq_false_iff,not_or,Bool.not_eq_false]at h1
    rcases List.mem_cons.1 hf with rfl | hf
    ·exact⟨h1.1,h1.2,by simpa using h2⟩
    ·exact Zdu l h f hf
theorem Zbx {s:List UInt8}(h:Zbp s=true):s.length<=400:=by
 unfold Zbp at h
 simp only[Bool.and_eq_true,decide_eq_true_eq]at h
 exact h.1.1
theorem Zg3 {l:List Fld}(hl:l.length<=40)(h:∀f∈l,Zwq f):Zyj l:=
 ⟨hl,fun f hf=>⟨(Zet (h f hf).1).2.1,Zbx (h f hf).2.1⟩⟩
def lenV (n:Nat):Value:=if n=0 then .int .i64 (-1)else .int .i64 ((n:Nat):Int)
theorem Zma :∀y∈Zdf,Zdp.contains y=true/\(58:UInt8)≠y:=by decide
theorem Zz2 {w:World}{R c at_:Nat}{A:Option Addr}{l rest:List UInt8}(fs:List Fld)(hf:∀f∈fs,Zwq f)(h40:fs.length<=40)(nb:Nat)(hnb:nb<=8000)(h:RdR w R A l c at_ (Zbg fs++(lenL nb++([13,10]++rest)))):
  CA 35 #[.pointer (some ⟨R,0,none⟩),.int .i64 1,.bool false] w fun e w'=>∃A2 c2,e=.returned (.tuple #[.slice A2 fs.length c2,lenV nb,.bool false])/\Znc w w' R A l c fs (.slice A2 fs.length c2) rest:=by
 have HF:=Hd hf
 have hlt:=h.rd.blk.lt
 have hsm:=h.rd.sm
 have HS:=Hd (show Znc w w R A l c [] (.slice none 0 0) (Zbg fs++(lenL nb++([13,10]++rest)))from⟨World.ownsRow_nil _ _ _ _,⟨_,h⟩,Zac.refl _ _ _,hlt⟩)
 clear hf h
 go_enter func35,ntmps35
 go_wp2_with fail
 go_loopg [6,7,8] fs.length (fun m v v7 v8 wr=>∃(k:Nat) (A2:Option Addr) (c2:Nat),m+k=fs.length/\v=.slice A2 k c2/\v7=.int .i64 (-1)/\v8=.bool false/\Hid (Znc w wr R A l c (fs.take k) (.slice A2 k c2) (Zbg (fs.drop k)++(lenL nb++([13,10]++rest)))))
 case atStart=>exact⟨0,none,0,rfl,rfl,rfl,rfl,HS.out⟩
 case round=>
  clear HS
  obtain⟨k,A2,c2,hk,rfl,rfl,rfl,HS⟩:=hrel
  obtain⟨at1,hr1⟩:=HS.out.rd
  have c0:=hr1.rd.blk.cell 0
  have c1:=hr1.rd.blk.cell 1
  have c2':=hr1.rd.blk.cell 2
  have hl1:=hr1.rd.blk.lt
  have hkl:k<=fs.length:=by omega
  have HK:=Hd hk
  clear hk
  by_cases hlt2:k < fs.length
  ·have hd:fs.drop k=fs[k]::fs.drop (k+1):=List.drop_eq_getElem_cons hlt2
   have hg:=HF.out fs[k] (List.getElem_mem hlt2)
   have htk:fs.take (k+1)=fs.take k++[fs[k]]:=List.take_succ_eq_append_getElem hlt2
   obtain⟨f,hfk⟩:=exl (fs[k])
   rw[hfk]at hd hg htk
   rw[hd]at hr1
   obtain⟨f1,f2⟩:=f
   obtain⟨g1,g2,g3⟩:=hg
   obtain⟨n1,n2,n3⟩:=Zet g1
   have hr2:RdR wr R A l c at1 (f1++58::(32::(f2++([13,10]++(Zbg (fs.drop (k+1))++(lenL nb++([13,10]++rest))))))):=by
    have e:Zbg ((f1,f2)::fs.drop (k+1))++(lenL nb++([13,10]++rest))=f1++58::(32::(f2++([13,10]++(Zbg (fs.drop (k+1))++(lenL nb++([13,10]++rest)))))):=by simp[Zbg,Zsd]
    rwa [e]at hr1
   obtain⟨x,r,hx⟩:∃x r,f1=x::r:=by
    cases f1 with
    | nil=>exact absurd rfl n1
    | cons x r=>exact⟨x,r,rfl⟩
   have hx13:x≠13:=by
    rintro rfl
    have:=(n3 13 (by rw[hx];simp)).1
    revert this
    decide
   obtain⟨b,off,hA,hbR,hal,hcl⟩:=hr2.head (x:=x) (r:=r++58::(32::(f2++([13,10]++(Zbg (fs.drop (k+1))++(lenL nb++([13,10]++rest))))))) (by rw[hx];rfl)
   have hxn:((((x.toNat:Nat):Int)==13))=false:=Zuo (n:=13) fun e=>hx13 (UInt8.toNat_inj.1 (by rw[e];rfl))
   obtain⟨X,hX⟩:=exl (x.toNat)
   rw[hX]at hcl hxn
   have hai:((at1:Nat):Int) < ((l.length:Nat):Int):=by omega
   have hbw:=Nat.lt_trans hbR hl1
   subst hA
   have HU:=Hd (Zgb (hr2.next ((Below.refl _ _).drew)) n3 n2)
   have e0:f1.isEmpty=false:=by rw[hx];rfl
   have hown:Zwf f1=(f1==Zzz || (f1==Zdf || f1==Zor)):=rfl
   rw[g3]at hown
   have o1:(f1==[104,111,115,116])=false:=by
    cases h:(f1==Zzz)with
    | true=>rw[h]at hown;simp at hown
    | false=>exact h
   have o2:(f1==[108,101,110,103,116,104])=false:=by
    cases h:(f1==Zdf)with
    | true=>rw[h]at hown;simp at hown
    | false=>exact h
   have o3:(f1==[99,111,100,105,110,103])=false:=by
    cases h:(f1==Zor)with
    | true=>rw[h]at hown;simp at hown
    | false=>exact h
   have HO:=Hd (show∀w1,CA 83 #[.string ⟨f1.toArray⟩] w1 fun e w'=>e=.returned (.bool false)/\w1=w' from fun w1=>by rw[<-g3];exact Zsa f1 w1)
   have hk40:(((k:Nat):Int)==40)=false:=Zuo (n:=40) (by omega)
   have HTK:=Hd htk
   have HG2:=Hd g2
   clear hr1 hr2 hd hfk g1 g2 g3 hx hx13 hX hown n1 n2 n3 htk
   go_wp2_with fail
   go_region
   go_wp2_with fail
   refine Mo HU ?_
   rintro e w1 ⟨rfl,⟨a3,hr3⟩,hb3⟩
   have d0:=hr3.rd.blk.cell 0
   have d1:=hr3.rd.blk.cell 1
   have d2:=hr3.rd.blk.cell 2
   have hl3:=hr3.rd.blk.lt
   have HN:=Hd (Zer hr3.rd)
   have HV:=Hd (Zml (s:=f2) (rest:=Zbg (fs.drop (k+1))++(lenL nb++([13,10]++rest))) (show RdR w1 R (some ⟨b,off,none⟩) l c a3 ([58,32]++f2++[13,10]++(Zbg (fs.drop (k+1))++(lenL nb++([13,10]++rest))))by
    have e:([58,32]++f2++[13,10]++(Zbg (fs.drop (k+1))++(lenL nb++([13,10]++rest))):List UInt8)=58::(32::(f2++([13,10]++(Zbg (fs.drop (k+1))++(lenL nb++([13,10]++rest)))))):=by simp
    rw[e];exact hr3) HG2.out)
   have HS3:=Hd (HS.out.next ⟨a3,hr3⟩ ((Zac.refl wr.heap.size R wr).drew.next2 hb3))
   clear hr3 hb3
   go_wp2_with fail
   refine Mo HN ?_
   rintro e w2 ⟨rfl,rfl⟩
   go_wp2_with fail
   refine(HO.out _).mono ?_
   rintro e w2 ⟨rfl,rfl⟩
   go_wp2_with fail
   refine Mo HV ?_
   rintro e w4 ⟨rfl,hr4,hb4⟩
   have HS4:=Hd (HS3.out.next hr4 hb4)
   have hbs:=HS4.out.bb.size
   have htl:(fs.take k).length=k:=by rw[List.length_take];omega
   have HO4:=Hd (show w4.ownsRow w.heap.size 41 2 (.slice A2 k c2) k (fvs (fs.take k))by have:=HS4.out.own;rwa [htl]at this)
   clear hr4 hb4 htl
   go_wp2_with (at_builtin;refine Zjf rfl _ _ rfl w.heap.size _ _ (fs.take k) rfl HO4.out (f1,f2) _ rfl rfl (by omega) hbs ?_;intro A5 c5 w5 hown5 hb5 hc5;have HO5:=Hd hown5;have HB5:=Hd hb5;clear hown5 hb5 hc5)
   go_roundg (gk-1)
   case measure=>have:=HK.out;omega
   case rel=>
    refine⟨k+1,A5,c5,by have:=HK.out;omega,rfl,rfl,rfl,?_,?_,?_,?_⟩
    ·rw[HTK.out,List.length_append,List.length_take,Nat.min_eq_left (by omega)]
     exact HO5.out
    ·obtain⟨a6,hr6⟩:=HS4.out.rd
     exact⟨a6,⟨hr6.rd.blk.below HB5.out HS4.out.lt,hr6.rd.rd.below (HB5.out.mono (Nat.le_of_lt HS4.out.lt)),hr6.rd.le,hr6.rd.cap,hr6.rd.sm⟩,hr6.eq⟩
    ·exact HS4.out.bb.trans (Zac.of HB5.out)
    ·exact HS4.out.lt
  ·have hk2:k=fs.length:=by omega
   subst hk2
   have he:Zbg (fs.drop fs.length)=[]:=by rw[List.drop_length];rfl
   rw[he,List.nil_append]at hr1
   rcases Nat.eq_zero_or_pos nb with h0 | h0
   ·subst h0
    have hr2:RdR wr R A l c at1 ([13,10]++rest):=hr1
    obtain⟨b,off,hA,hbR,hal,hcl⟩:=hr2.head rfl
    have hai:((at1:Nat):Int) < ((l.length:Nat):Int):=by omega
    have hbw:=Nat.lt_trans hbR hl1
    subst hA
    have HR2:=Hd (show RdR wr.drew R (some ⟨b,off,none⟩) l c at1 ([13,10]++rest)from hr2.next ((Below.refl _ _).drew))
    clear hr1 hr2 he
    go_wp2_with fail
    go_region
    go_wp2_with fail
    refine(Zcb HR2.out).mono ?_
    rintro e w1 ⟨rfl,hr3,hb3⟩
    have HS3:=Hd (HS.out.next hr3 ((Zac.refl wr.heap.size R wr).drew.next2 hb3))
    clear hr3 hb3
    go_wp2
    go_ret3
    refine⟨A2,c2,rfl,?_⟩
    have:=HS3.out
    rwa [List.take_length]at this
   ·have hlen:lenL nb=Zdf++([58,32]++(Lib.decDigits nb++[13,10])):=by unfold lenL;rw[if_neg (by omega)]
    rw[hlen]at hr1
    have hr2:RdR wr R A l c at1 (Zdf++58::(32::(Lib.decDigits nb++([13,10]++([13,10]++rest))))):=by
     have e:Zdf++([58,32]++(Lib.decDigits nb++[13,10]))++([13,10]++rest)=Zdf++58::(32::(Lib.decDigits nb++([13,10]++([13,10]++rest)))):=by simp
     rwa [e]at hr1
    obtain⟨b,off,hA,hbR,hal,hcl⟩:=hr2.head (x:=108) rfl
    have hai:((at1:Nat):Int) < ((l.length:Nat):Int):=by omega
    have hbw:=Nat.lt_trans hbR hl1
    subst hA
    have HU:=Hd (Zgb (hr2.next ((Below.refl _ _).drew)) Zma (by decide))
    clear hr1 hr2 he hlen
    go_wp2_with fail
    go_region
    go_wp2_with fail
    refine Mo HU ?_
    rintro e w1 ⟨rfl,⟨a3,hr3⟩,hb3⟩
    have d0:=hr3.rd.blk.cell 0
    have d1:=hr3.rd.blk.cell 1
    have d2:=hr3.rd.blk.cell 2
    have hl3:=hr3.rd.blk.lt
    have HN:=Hd (Zer hr3.rd)
    have HD:=Hd (Zsz (rest:=[13,10]++rest) nb h0 hnb (show RdR w1 R (some ⟨b,off,none⟩) l c a3 ([58,32]++(Lib.decDigits nb++([13,10]++([13,10]++rest))))from hr3))
    have HS3:=Hd (HS.out.next ⟨a3,hr3⟩ ((Zac.refl wr.heap.size R wr).drew.next2 hb3))
    clear hr3 hb3
    go_wp2_with fail
    refine Mo HN ?_
    rintro e w2 ⟨rfl,rfl⟩
    go_wp2_with fail
    refine Mo HD ?_
    rintro e w4 ⟨rfl,⟨a4,hr4⟩,hb4⟩
    have HS4:=Hd (HS3.out.next ⟨a4,hr4⟩ hb4)
    have HM:=Hd (Zcb (s:=[13,10]) (rest:=rest) hr4)
    clear hr4 hb4
    go_wp2_with fail
    refine Mo HM ?_
    rintro e w5 ⟨rfl,hr5,hb5⟩
    have HS5:=Hd (HS4.out.next hr5 hb5)
    clear hr5 hb5
    go_wp2
    go_ret3
    have hv:lenV nb=.int .i64 ((nb:Nat):Int):=by unfold lenV;rw[if_neg (by omega)]
    rw[hv]
    refine⟨A2,c2,rfl,?_⟩
    have:=HS5.out
    rwa [List.take_length]at this
def Zbq :List UInt8:=[99,111,111,107,105,101]
def Zrx :List UInt8:=[59,32]
def Zs4 (v:List UInt8):List (List UInt8):=Lib.splitK Zrx 0 (Lib.count v Zrx) v
theorem Zrt (sep:List UInt8):∀(k:Nat) (s:List UInt8),∃x xs,Lib.splitK sep 0 k s=x::xs/\x.length<=s.length
 | 0,s=>⟨s,[],rfl,Nat.le_refl _⟩
 | k+1,s=>by
  unfold Lib.splitK
  split
  ·exact⟨s,[],rfl,Nat.le_refl _⟩
  ·exact⟨_,_,rfl,by rw[List.length_take];omega⟩
theorem cut_ne (v:List UInt8):Zs4 v≠[]:=by
 obtain⟨x,xs,h,_⟩:=Zrt Zrx (Lib.count v Zrx) v
 unfold Zs4
 rw[h]
 simp
theorem Zjk (sep:List UInt8):∀(k:Nat) (s:List UInt8),∀x∈Lib.splitK sep 0 k s,x.length<=s.length
 | 0,s,x,hx=>by
  simp only[Lib.splitK,List.mem_singleton]at hx
  rw[hx]
  exact Nat.le_refl _
 | k+1,s,x,hx=>by
  unfold Lib.splitK at hx
  split at hx
  ·simp only[List.mem_singleton]at hx
   rw[hx]
   exact Nat.le_refl _
  ·rcases List.mem_cons.1 hx with rfl | hx
   ·rw[List.length_take];omega
   ·have:=Zjk sep k _ x hx
    rw[List.length_drop]at this
    omega
theorem Zmm (sep:List UInt8):∀(k:Nat) (s:List UInt8),(Lib.splitK sep 0 k s).length<=k+1
 | 0,s=>Nat.le_refl _
 | k+1,s=>by
  unfold Lib.splitK
  split
  ·simp
  ·have:=Zmm sep k (s.drop ((Lib.index s sep).toNat+sep.length))
   simp only[List.length_cons]
   omega
def Z0j (f:Fld):List Fld:=if f.1=Zbq then(Zs4 f.2).map fun x=>(Zbq,x)else [f]
def Zjy (fs:List Fld):List Fld:=fs.flatMap Z0j
def Zhg :List UInt8:=[58,109,101,116,104,111,100]
def Zi7 :List UInt8:=[58,112,97,116,104]
def Zho :List UInt8:=[58,104,111,115,116]
def Zc3 (m p h:List UInt8)(fs:List Fld):List Fld:=(Zhg,m)::(Zi7,p)::(Zho,h)::Zjy fs
theorem Zsv (a b:List Fld):Zjy (a++b)=Zjy a++Zjy b:=by simp[Zjy]
theorem Zp3 (m p h:List UInt8)(a b:List Fld):Zc3 m p h (a++b)=Zc3 m p h a++Zjy b:=by simp[Zc3,Zsv]
structure Acc where
 l:List Fld
 ck:Option Nat
def Zf2 :List Fld->Nat->List UInt8->List Fld
 | [],_,_=> []
 | f::l,0,x=>(f.1,f.2++(Zrx++x))::l
 | f::l,i+1,x=>f::Zf2 l i x
def Zl2 (a:Acc)(f:Fld):Acc:=
 if f.1=Zbq then
  match a.ck with
  | some i=>⟨Zf2 a.l i f.2,some i⟩
  | none=>⟨a.l++[f],some a.l.length⟩
 else⟨a.l++[f],a.ck⟩
def Zke (a:Acc)(l:List Fld):Acc:=l.foldl Zl2 a
theorem Ztn (a:Acc)(x y:List Fld):Zke a (x++y)=Zke (Zke a x) y:=by simp[Zke]
theorem Ziv (l:List Fld)(i:Nat)(x:List UInt8):(Zf2 l i x).length=l.length:=by
 induction l generalizing i with
 | nil=>rfl
 | cons g l ih=>cases i with
  | zero=>rfl
  | succ i=>show(Zf2 l i x).length+1=_;rw[ih];rfl
theorem Zyz {at_ n q L:Nat}(h:at_+n=q)(hq:q<=L)(hL:L<=140737488355328):wrap64 (((at_:Nat):Int)+((n:Nat):Int))=((q:Nat):Int)/\wrap64 (((q:Nat):Int)-((n:Nat):Int))=((at_:Nat):Int)/\((q:Nat):Int)-((n:Nat):Int)=((at_:Nat):Int)/\((at_:Nat):Int)+((n:Nat):Int)=((q:Nat):Int)/\
  decide (((L:Nat):Int)-((at_:Nat):Int) < ((n:Nat):Int))=false/\wrap64 (((L:Nat):Int)-((at_:Nat):Int))=((L:Nat):Int)-((at_:Nat):Int):=by
 refine⟨by unfold wrap64;omega,by unfold wrap64;omega,by omega,by omega,decide_eq_false (by omega),by unfold wrap64;omega⟩
theorem Z1j {w:World}{R c at_:Nat}{A:Option Addr}{l rest:List UInt8}(b:List UInt8)(hb0:0 < b.length)(h:RdR w R A l c at_ (b++rest)):
  CA 36 #[.pointer (some ⟨R,0,none⟩),.int .i64 ((b.length:Nat):Int)] w fun e w'=>∃A2 c2,e=.returned (.slice A2 b.length c2)/\w'.ownsRow w.heap.size 5 1 (.slice A2 b.length c2) b.length (bs b)/\(∃a2,RdR w' R A l c a2 rest)/\Zac w.heap.size R w w':=by
 have c0:=h.rd.blk.cell 0
 have c1:=h.rd.blk.cell 1
 have c2:=h.rd.blk.cell 2
 have f1:=h.rd.blk.frozen 1
 have hl1:=h.rd.blk.lt
 have hsm:=h.rd.sm
 have hcap:=h.rd.cap
 have hle:=Zsy h.eq h.rd.le
 obtain⟨bb,off,hA,hbR,hal,hcl⟩:=h.head (x:=b[0]) (r:=b.drop 1++rest) (by
  have:b=b[0]::b.drop 1:=by
   cases b with
   | nil=>simp at hb0
   | cons x t=>rfl
  rw[<-List.cons_append,<-this])
 subst hA
 obtain⟨q,hq⟩:=exl (at_+b.length)
 rw[hq]at hle
 obtain⟨u1,u2,u3,u4,u5,u6⟩:=Zyz hq hle hsm
 have u7:IntKind.i64.wrap ((at_:Nat):Int)=((at_:Nat):Int):=IntWalk.i64_in _ (by omega)
 have hmid:=Zej (at_:=at_) (n:=b.length) (c:=c) h.rd.rd (by omega) hcap
 rw[if_neg (by omega)]at hmid
 have hbe:(l.drop at_).take b.length=b:=by rw[h.eq];simp
 rw[hbe]at hmid
 obtain⟨W,hW⟩:=exl (w.setCell ⟨R,1,none⟩ (.int .i64 ((q:Nat):Int)))
 have hbW:Zac w.heap.size R w W:=by rw[<-hW];exact(Zac.refl w.heap.size R w).setCell (p:=⟨R,1,none⟩) (.inl rfl) _
 have hrW:RdR W R (some ⟨bb,off,none⟩) l c q rest:=by
  rw[<-hW]
  refine⟨⟨?_,h.rd.rd.setCell (p:=⟨R,1,none⟩) (Nat.le_refl _) _,hle,hcap,hsm⟩,?_⟩
  ·have:=h.rd.blk.set_ 1 (.int .i64 ((q:Nat):Int))
   simpa using this
  ·rw[<-hq];exact Zeo h.eq
 have hmW:Zab W R 1 (some ⟨bb,off+at_,none⟩) b.length (bs b):=by rw[<-hW];exact hmid.setCell (p:=⟨R,1,none⟩) (Nat.le_refl _) _
 have d0:=hrW.rd.blk.cell 0
 have d1:=hrW.rd.blk.cell 1
 have dl:=hrW.rd.blk.lt
 have HC:=Hd (show∀w1,Below W.heap.size W w1->CA 46 #[.slice (some ⟨bb,off+at_,none⟩) b.length (c-at_)] w1 fun e w'=>∃A' c',e=.returned (.slice A' b.length c')/\w'.ownsRow w1.heap.size 5 1 (.slice A' b.length c') b.length (bs b)/\Below w1.heap.size w1 w' from fun w1 hb=>Zcd (some ⟨bb,off+at_,none⟩) b b.length (c-at_) rfl (fun h=>by cases h) (by omega) w1 ((hmW.below (hb.mono (Nat.le_of_lt dl))).more (Nat.le_trans (Nat.le_of_lt dl) hb.size)))
 have HRW:=Hd hrW
 have HBW:=Hd hbW
 have HW:=Hd hW
 have hqc:q<=c:=by omega
 have hca:¬c=at_:=by omega
 have haq:at_<=q:=by omega
 have haq2:((at_:Nat):Int)<=((q:Nat):Int):=by omega
 have hqc2:((q:Nat):Int)<=((c:Nat):Int):=by omega
 have hqa:q-at_=b.length:=by omega
 have hbw:bb < w.heap.size:=by omega
 clear hbW hrW hmW hmid hbe hq h hcl
 go_enter func36,ntmps36
 go_wp2_with fail
 go_region
 go_wp2_with fail
 go_region_with (go_at_call 46;refine(HC.out _ (Below.refl _ _).drew.drew).mono ?_;rintro e w1 ⟨A2,cc2,rfl,hown,hb1⟩;have HO:=Hd hown;have HB1:=Hd hb1;clear hown hb1)
 all_goals
  go_wp2
  go_ret
  have hb2:Below W.heap.size W w1:=(Below.refl _ _).drew.drew.trans HB1.out
  refine⟨A2,cc2,rfl,?_,⟨q,HRW.out.next hb2⟩,HBW.out.next2 (Zac.of hb2)⟩
  exact Zdk HO.out HBW.out.size
theorem Zom {w:World}{R:Nat}{A:Option Addr}{l:List UInt8}{c at_:Nat}(h:Zo0 w R A l c at_):
  CA 37 #[.pointer (some ⟨R,0,none⟩)] w fun e w'=>e=.returned .nilIface/\w=w':=by
 have c0:=h.blk.cell 0
 have c2:=h.blk.cell 2
 have hl:=h.blk.lt
 clear h
 have q:=run_eql_iface_nil_left (P:=prog) (w:=w) 95 (.int .i64 8) underlying28
 go_enter func37,ntmps37
 go_wp2
 go_ret
 exact⟨rfl,rfl⟩
structure Zmh (w wr:World)(A:Option Addr)(l:List UInt8)(c:Nat)(a0 a1 a2 a3 a4:Value)(rest:List UInt8):Prop where
 g:Blk wr w.heap.size 25 #[a0,a1,a2,a3,a4]
 rd:∃at_,RdR wr (w.heap.size+1) A l c at_ rest
 rb:Zab wr w.heap.size 1 A l.length (bs l)
 bw:Below w.heap.size w wr
section
variable {w wr w1:World} {A:Option Addr} {l:List UInt8} {c:Nat} {a0 a1 a2 a3 a4:Value} {rest rest':List UInt8}
theorem Zmh.next (h:Zmh w wr A l c a0 a1 a2 a3 a4 rest)(hr:∃at_,RdR w1 (w.heap.size+1) A l c at_ rest')(hb:Zac wr.heap.size (w.heap.size+1) wr w1):Zmh w w1 A l c a0 a1 a2 a3 a4 rest':=by
 have hs:=h.bw.size
 exact⟨(hb.block _ h.g.lt (by omega)).trans h.g,hr,h.rb.keep fun p hp=>hb.cell (by omega) (by omega),h.bw.trans (hb.below h.bw.size (by omega))⟩
theorem Zmh.far (h:Zmh w wr A l c a0 a1 a2 a3 a4 rest)(i:Nat)(v:Value):(∃at_,RdR (wr.setCell ⟨w.heap.size,i,none⟩ v) (w.heap.size+1) A l c at_ rest)/\Zab (wr.setCell ⟨w.heap.size,i,none⟩ v) w.heap.size 1 A l.length (bs l)/\Below w.heap.size w (wr.setCell ⟨w.heap.size,i,none⟩ v):=by
 obtain⟨a,hr⟩:=h.rd
 have h1:=h.rb.setCell (p:=⟨w.heap.size,i,none⟩) (Nat.le_refl _) v
 exact⟨⟨a,⟨hr.rd.blk.far (by simp) v,h1.more (by omega),hr.rd.le,hr.rd.cap,hr.rd.sm⟩,hr.eq⟩,h1,h.bw.setCell (p:=⟨w.heap.size,i,none⟩) (Nat.le_refl _) v⟩
theorem Zmh.s0 (h:Zmh w wr A l c a0 a1 a2 a3 a4 rest)(v:Value):Zmh w (wr.setCell ⟨w.heap.size,0,none⟩ v) A l c v a1 a2 a3 a4 rest:=
 ⟨by simpa using h.g.set_ 0 v,(h.far 0 v).1,(h.far 0 v).2.1,(h.far 0 v).2.2⟩
theorem Zmh.s1 (h:Zmh w wr A l c a0 a1 a2 a3 a4 rest)(v:Value):Zmh w (wr.setCell ⟨w.heap.size,1,none⟩ v) A l c a0 v a2 a3 a4 rest:=
 ⟨by simpa using h.g.set_ 1 v,(h.far 1 v).1,(h.far 1 v).2.1,(h.far 1 v).2.2⟩
theorem Zmh.s2 (h:Zmh w wr A l c a0 a1 a2 a3 a4 rest)(v:Value):Zmh w (wr.setCell ⟨w.heap.size,2,none⟩ v) A l c a0 a1 v a3 a4 rest:=
 ⟨by simpa using h.g.set_ 2 v,(h.far 2 v).1,(h.far 2 v).2.1,(h.far 2 v).2.2⟩
theorem Zmh.s3 (h:Zmh w wr A l c a0 a1 a2 a3 a4 rest)(v:Value):Zmh w (wr.setCell ⟨w.heap.size,3,none⟩ v) A l c a0 a1 a2 v a4 rest:=
 ⟨by simpa using h.g.set_ 3 v,(h.far 3 v).1,(h.far 3 v).2.1,(h.far 3 v).2.2⟩
theorem Zmh.s4 (h:Zmh w wr A l c a0 a1 a2 a3 a4 rest)(v:Value):Zmh w (wr.setCell ⟨w.heap.size,4,none⟩ v) A l c a0 a1 a2 a3 v rest:=
 ⟨by simpa using h.g.set_ 4 v,(h.far 4 v).1,(h.far 4 v).2.1,(h.far 4 v).2.2⟩
end
theorem Zcv {m:List UInt8}(h:Zgi m=true):m≠[]/\m.length<=400/\∀y∈m,Zt5.contains y=true/\(32:UInt8)≠y:=by
 unfold Zgi at h
 simp only[Bool.and_eq_true,decide_eq_true_eq]at h
 refine⟨h.1.1,h.1.2,fun y hy=> ?_⟩
 have:=List.all_eq_true.1 h.2 y hy
 refine⟨this,?_⟩
 rintro rfl
 revert this
 decide
theorem Zzx {l:List UInt8}{c:UInt8}(h:¬0<=Lib.indexByte l c):∀y∈l,y≠c:=by
 intro y hy e
 subst e
 have:=Zd5 l y
 rw[decide_eq_false h]at this
 rw[List.contains_iff_mem.2 hy]at this
 cases this
theorem Zb1 {p:List UInt8}(h:Zc4 p=true):p≠[]/\p.length<=400/\∀y∈p,Zxf y=true/\(32:UInt8)≠y:=by
 unfold Zc4 at h
 simp only[Bool.and_eq_true,decide_eq_true_eq,Bool.not_eq_true',decide_eq_false_iff_not]at h
 obtain⟨⟨h0,h1⟩,h2⟩:=h
 refine⟨h0,Zbx h1,fun y hy=> ?_⟩
 have h3:=Zzx h2 y hy
 unfold Zbp at h1
 simp only[Bool.and_eq_true]at h1
 have h4:=List.all_eq_true.1 h1.2 y hy
 unfold Zf7 at h4
 simp only[Bool.and_eq_true,decide_eq_true_eq]at h4
 have h5:y.toNat≠32:=fun e=>h3 (UInt8.toNat_inj.1 (by rw[e];rfl))
 refine⟨?_,fun e=>h3 e.symm⟩
 unfold Zxf
 simp only[Bool.and_eq_true,decide_eq_true_eq]
 omega
theorem Zdw {m p h:List UInt8}{fs:List Fld}{nb:Nat}(hE:Zf8 m p h fs nb=0):fs.length<=40/\nb<=8000/\Zgi m=true/\Zc4 p=true/\h≠[]/\Zbp h=true/\Zok fs=0:=by
 unfold Zf8 at hE
 by_cases h1:40 < fs.length∨8000 < nb
 ·rw[if_pos h1]at hE;cases hE
 ·rw[if_neg h1]at hE
  cases h2:Zgi m with
  | false=>simp[h2]at hE
  | true=>
   cases h3:Zc4 p with
   | false=>simp[h2,h3]at hE
   | true=>
    by_cases h4:h=[]
    ·simp[h2,h3,h4]at hE
    ·cases h5:Zbp h with
     | false=>simp[h2,h3,h4,h5]at hE
     | true=>
      simp[h2,h3,h4,h5]at hE
      exact⟨by omega,by omega,rfl,rfl,h4,rfl,hE⟩
theorem Zh9 {a b c d e:Value}:(prog.info? 25).map (·.size)=some (#[a,b,c,d,e]:Array Value).size:=by kernel_rfl
theorem Zb5 {w:World}{base size n:Nat}{e:TypeId}{v:Value}{xs:List Value}(h:w.ownsRow base e size v n xs){p:Addr}(hp:p.block < base)(u:Value):(w.setCell p u).ownsRow base e size v n xs:=
 h.kept (row:=some p.block) ⟨rfl,rfl,rfl,by simp[World.setCell],fun k _ hk=>Below.heap_setCell _ _ _ _ (fun e=>hk (by simp[e]))⟩ (by
  cases hv:v.ownBlock with
  | none=>exact .inl rfl
  | some g=>
   right
   intro e
   injection e with e
   have:=(h.lt g hv).1
   omega)
theorem Zls {w:World}{g:Nat}{t:TypeId}{a0 a1 a2 a3 a4:Value}(h:Blk w g t #[a0,a1,a2,a3,a4]):Blk (((((w.setCell ⟨g,0,none⟩ a0).setCell ⟨g,1,none⟩ a1).setCell ⟨g,2,none⟩ a2).setCell ⟨g,3,none⟩ a3).setCell ⟨g,4,none⟩ a4) g t #[a0,a1,a2,a3,a4]:=by
 simpa using((((h.set_ 0 a0).set_ 1 a1).set_ 2 a2).set_ 3 a3).set_ 4 a4
def set5 (w:World)(g:Nat)(a0 a1 a2 a3 a4:Value):World:=(((((w.setCell ⟨g,0,none⟩ a0).setCell ⟨g,1,none⟩ a1).setCell ⟨g,2,none⟩ a2).setCell ⟨g,3,none⟩ a3).setCell ⟨g,4,none⟩ a4).drew
theorem own_drew {w:World}{base size n:Nat}{e:TypeId}{v:Value}{xs:List Value}(h:w.ownsRow base e size v n xs):w.drew.ownsRow base e size v n xs:=h
theorem Znr {w:World}{base size n g:Nat}{e:TypeId}{v:Value}{xs:List Value}(h:w.ownsRow base e size v n xs)(hg:g < base)(a0 a1 a2 a3 a4:Value):(set5 w g a0 a1 a2 a3 a4).ownsRow base e size v n xs:=by
 have h0:=Zb5 (p:=⟨g,0,none⟩) h hg a0
 have h1:=Zb5 (p:=⟨g,1,none⟩) h0 hg a1
 have h2:=Zb5 (p:=⟨g,2,none⟩) h1 hg a2
 have h3:=Zb5 (p:=⟨g,3,none⟩) h2 hg a3
 have h4:=Zb5 (p:=⟨g,4,none⟩) h3 hg a4
 exact own_drew h4
theorem Zmo {B g:Nat}{w0 w:World}(h:Below B w0 w)(hg:B<=g)(a0 a1 a2 a3 a4:Value):Below B w0 (set5 w g a0 a1 a2 a3 a4):=
 (((((h.setCell (p:=⟨g,0,none⟩) hg a0).setCell (p:=⟨g,1,none⟩) hg a1).setCell (p:=⟨g,2,none⟩) hg a2).setCell (p:=⟨g,3,none⟩) hg a3).setCell (p:=⟨g,4,none⟩) hg a4).drew
def RaGave (w w':World)(m p h:List UInt8)(fs:List Fld)(b:List UInt8)(v:Value):Prop:=∃FA fc BA bc,v=.agg (Zcf m p h FA fs.length fc BA b.length bc)/\w'.ownsRow w.heap.size 41 2 (.slice FA fs.length fc) fs.length (fvs fs)/\w'.ownsRow w.heap.size 5 1 (.slice BA b.length bc) b.length (bs b)/\Below w.heap.size w w'
theorem Zvy (m p h:List UInt8)(fs:List Fld)(b:List UInt8)(hE:Zf8 m p h fs b.length=0)(A:Option Addr)(n c:Nat)(hn:n=(Zjt m p h fs b).length)(hcap:(Zjt m p h fs b).length<=c)(w:World)(hr:Zab w w.heap.size 1 A (Zjt m p h fs b).length (bs (Zjt m p h fs b))):
  CA 7 #[.slice A n c] w fun e w'=>∃v,e=.returned (.tuple #[v,.int .i64 ((n:Nat):Int),.nilIface])/\RaGave w w' m p h fs b v:=by
 subst hn
 obtain⟨q1,q2,q3,q4,q5,q6,q7⟩:=Zdw hE
 have hgood:=Zdu fs q7
 have hlen:=Zox m p h fs b (Zcv q3).2.1 (Zb1 q4).2.1 (Zbx q6) (Zg3 q1 hgood) q2
 have hask:Zjt m p h fs b=m++(32::(p++(32::((Zjz.drop 1)++([58,32]++h++[13,10]++(Zbg fs++(lenL b.length++([13,10]++b)))))))):=by
  unfold Zjt Zjz
  simp
 obtain⟨l,hl⟩:=exl (Zjt m p h fs b)
 rw[hl]at hr hlen hcap hask⊢
 obtain⟨m1,m2,m3⟩:=Zcv q3
 obtain⟨p1,p2,p3⟩:=Zb1 q4
 obtain⟨W0,hW0⟩:=exl ((w.alloc (.cells #[.string ⟨#[]⟩,.string ⟨#[]⟩,.string ⟨#[]⟩,.slice none 0 0,.slice none 0 0] 25)).alloc (.cells #[.slice A l.length c,.int .i64 0,.nilIface] 77))
 have hba:Below w.heap.size w (w.alloc (.cells #[.string ⟨#[]⟩,.string ⟨#[]⟩,.string ⟨#[]⟩,.slice none 0 0,.slice none 0 0] 25)):=(Below.refl _ _).alloc (Nat.le_refl _) _
 have hb0:Below w.heap.size w W0:=by rw[<-hW0];exact hba.alloc hba.size _
 have hS0:Zmh w W0 A l c (.string ⟨#[]⟩) (.string ⟨#[]⟩) (.string ⟨#[]⟩) (.slice none 0 0) (.slice none 0 0) l:=by
  refine⟨?_,⟨0,⟨⟨?_,(hr.below hb0).more (by omega),Nat.zero_le _,hcap,by omega⟩,by simp⟩⟩,hr.below hb0,hb0⟩
  ·rw[<-hW0];exact(Blk.new w _ _).alloc _
  ·rw[<-hW0]
   have:=Blk.new (w.alloc (.cells #[.string ⟨#[]⟩,.string ⟨#[]⟩,.string ⟨#[]⟩,.slice none 0 0,.slice none 0 0] 25)) 77 #[.slice A l.length c,.int .i64 0,.nilIface]
   simpa using this
 have HS0:=Hd hS0
 have HQ1:=Hd q1
 have HQ2:=Hd q2
 have HQ6:=Hd q6
 have HGD:=Hd hgood
 have HASK:=Hd hask
 have HM:=Hd (And.intro m2 m3)
 have HP:=Hd (And.intro p2 p3)
 have em:m.isEmpty=false:=by simpa using m1
 have ep:p.isEmpty=false:=by simpa using p1
 have eh:h.isEmpty=false:=by simpa using q5
 have HW0:=Hd hW0
 clear hE hr hba hb0 hS0 q1 q2 q3 q4 q5 q6 q7 hgood hask m1 m2 m3 p1 p2 p3 hl hcap hlen
 go_enter func7,ntmps7
 go_wp2_with fail
 obtain⟨r4,hr4⟩:=exl (Zbg fs++(lenL b.length++([13,10]++b)))
 obtain⟨r3,hr3⟩:=exl ([58,32]++h++[13,10]++r4)
 have hask:=HASK.out
 rw[hr4,hr3]at hask
 obtain⟨x0,hx0⟩:=HS0.out.rd
 have HC0:=Hd (Zrq (s:=m) (x:=32) (rest:=p++(32::(Zjz.drop 1++r3))) (show RdR W0 (w.heap.size+1) A l c x0 (m++32::(p++(32::(Zjz.drop 1++r3))))from⟨hx0.rd,hx0.eq.trans hask⟩) HM.out.2 HM.out.1)
 have HR4:=Hd hr4
 have HR3:=Hd hr3
 clear hask hx0 hr4 hr3 hW0
 refine Mo HC0 ?_
 rintro e w1 ⟨rfl,hx1,hb1⟩
 have hs1:=HS0.out.next hx1 hb1
 have d0:=hs1.g.cell 0
 have f0:=hs1.g.frozen 0
 have l0:=hs1.g.lt
 have hs1':=hs1.s0 (.string ⟨m.toArray⟩)
 obtain⟨x1,hx1'⟩:=hs1'.rd
 have HS1:=Hd hs1'
 have HN1:=Hd (Zer hx1'.rd)
 have HC1:=Hd (Zcb (s:=[32]) (rest:=p++(32::(Zjz.drop 1++r3))) (show RdR (w1.setCell ⟨w.heap.size,0,none⟩ (.string ⟨m.toArray⟩)) (w.heap.size+1) A l c x1 ([32]++(p++(32::(Zjz.drop 1++r3))))from hx1'))
 clear hx1 hb1 hs1 hs1' hx1'
 go_wp2_with fail
 refine Mo HN1 ?_
 rintro e w2 ⟨rfl,rfl⟩
 go_wp2_with fail
 refine Mo HC1 ?_
 rintro e w2 ⟨rfl,hx2,hb2⟩
 have hs2:=HS1.out.next hx2 hb2
 have d1:=hs2.g.cell 1
 have f1:=hs2.g.frozen 1
 have l2:=hs2.g.lt
 obtain⟨x2,hx2'⟩:=hx2
 have HC2:=Hd (Zni (s:=p) (x:=32) (rest:=Zjz.drop 1++r3) hx2' HP.out.2 HP.out.1)
 have HS2:=Hd hs2
 clear hb2 hs2 hx2'
 go_wp2_with fail
 refine Mo HC2 ?_
 rintro e w3 ⟨rfl,hx3,hb3⟩
 have hs3:=HS2.out.next hx3 hb3
 have d1:=hs3.g.cell 1
 have f1:=hs3.g.frozen 1
 have l3:=hs3.g.lt
 have hs3':=hs3.s1 (.string ⟨p.toArray⟩)
 obtain⟨x3,hx3'⟩:=hs3'.rd
 have HS3:=Hd hs3'
 have HN3:=Hd (Zer hx3'.rd)
 have HC3:=Hd (Zcb (s:=Zjz) (rest:=r3) (show RdR (w3.setCell ⟨w.heap.size,1,none⟩ (.string ⟨p.toArray⟩)) (w.heap.size+1) A l c x3 (Zjz++r3)from hx3'))
 clear hx3 hb3 hs3 hs3' hx3'
 go_wp2_with fail
 refine Mo HN3 ?_
 rintro e w4 ⟨rfl,rfl⟩
 go_wp2_with fail
 refine Mo HC3 ?_
 rintro e w4 ⟨rfl,hx4,hb4⟩
 have hs4:=HS3.out.next hx4 hb4
 obtain⟨x4,hx4'⟩:=hx4
 have HC4:=Hd (Zml (s:=h) (rest:=r4) (show RdR w4 (w.heap.size+1) A l c x4 ([58,32]++h++[13,10]++r4)from⟨hx4'.rd,hx4'.eq.trans HR3.out.symm⟩) HQ6.out)
 have HS4:=Hd hs4
 clear hb4 hs4 hx4'
 go_wp2_with fail
 refine Mo HC4 ?_
 rintro e w5 ⟨rfl,hx5,hb5⟩
 have hs5:=HS4.out.next hx5 hb5
 have d2:=hs5.g.cell 2
 have f2:=hs5.g.frozen 2
 have l5:=hs5.g.lt
 have hs5':=hs5.s2 (.string ⟨h.toArray⟩)
 obtain⟨x5,hx5'⟩:=hs5'.rd
 have HS5:=Hd hs5'
 have HN5:=Hd (Zer hx5'.rd)
 have HC5:=Hd (Zz2 (rest:=b) fs HGD.out HQ1.out b.length HQ2.out (show RdR (w5.setCell ⟨w.heap.size,2,none⟩ (.string ⟨h.toArray⟩)) (w.heap.size+1) A l c x5 (Zbg fs++(lenL b.length++([13,10]++b)))from⟨hx5'.rd,hx5'.eq.trans HR4.out.symm⟩))
 clear hx5 hb5 hs5 hs5' hx5'
 go_wp2_with fail
 refine Mo HN5 ?_
 rintro e w6 ⟨rfl,rfl⟩
 go_wp2_with fail
 refine Mo HC5 ?_
 rintro e w6 ⟨FA,fc,rfl,hh6⟩
 have hs6:=HS5.out.next hh6.rd hh6.bb
 have d3:=hs6.g.cell 3
 have f3:=hs6.g.frozen 3
 have l6:=hs6.g.lt
 have hs6':=hs6.s3 (.slice FA fs.length fc)
 have HS6:=Hd hs6'
 have HO6:=Hd hh6.own
 obtain⟨x6,hx6⟩:=hs6'.rd
 have hsz5:=HS5.out.bw.size
 have hlt5:=HS5.out.g.lt
 have hlr5:w.heap.size+1 < (w5.setCell ⟨w.heap.size,2,none⟩ (.string ⟨h.toArray⟩)).heap.size:=by obtain⟨a,ha⟩:=HS5.out.rd;exact ha.rd.blk.lt
 clear hs6 hs6' hh6
 rcases Nat.eq_zero_or_pos b.length with hb0 | hb0
 ·have hbn:b=[]:=List.eq_nil_of_length_eq_zero hb0
  subst hbn
  have hat:x6=l.length:=by have:=hx6.len;simpa using this
  subst hat
  have hv:lenV ([]:List UInt8).length=.int .i64 (-1):=rfl
  rw[hv]
  have HF:=Hd (Zom hx6.rd)
  have HX6:=Hd hx6
  clear hx6
  go_wp2_with fail
  refine Mo HF ?_
  rintro e w7 ⟨rfl,rfl⟩
  obtain⟨W7,hW7⟩:=exl (w6.setCell ⟨w.heap.size,3,none⟩ (.slice FA fs.length fc))
  have HW7:=Hd hW7
  have hg7:=HS6.out.g
  have hr7:=HX6.out.rd.blk
  rw[hW7]at hg7 hr7⊢
  have g0:=hg7.cell 0
  have g1:=hg7.cell 1
  have g2:=hg7.cell 2
  have g3:=hg7.cell 3
  have g4:=hg7.cell 4
  have k0:=hg7.frozen 0
  have k1:=hg7.frozen 1
  have k2:=hg7.frozen 2
  have k3:=hg7.frozen 3
  have k4:=hg7.frozen 4
  have r1:=hr7.cell 1
  have gl:=hg7.lt
  have rl:=hr7.lt
  have HG7:=Hd hg7
  clear hg7 hr7 hW7
  go_wp2_with fail
  go_region
  all_goals
   go_wp2
   refine bodyPost_ret (Za6 rfl _ _ w.heap.size _ _ _ rfl (Zls HG7.out).drew underlying25 rfl Zh9) rfl ?_
   refine⟨_,rfl,FA,fc,none,0,rfl,?_,World.ownsRow_nil _ _ _ _,?_⟩
   ·refine Zdk (Znr (w:=W7) ?_ hlt5 _ _ _ _ _) hsz5
    rw[<-HW7.out]
    exact Zb5 HO6.out hlt5 _
   ·refine Zmo ?_ (Nat.le_refl _) _ _ _ _ _
    have:=HS6.out.bw
    rwa [HW7.out]at this
 ·have hv:lenV b.length=.int .i64 ((b.length:Nat):Int):=by unfold lenV;rw[if_neg (by omega)]
  rw[hv]
  have hi0:(0:Int) < ((b.length:Nat):Int):=by omega
  have HB6:=Hd (Z1j (rest:=[]) b hb0 (show RdR (w6.setCell ⟨w.heap.size,3,none⟩ (.slice FA fs.length fc)) (w.heap.size+1) A l c x6 (b++[])by rw[List.append_nil];exact hx6))
  clear hx6
  go_wp2_with fail
  refine Mo HB6 ?_
  rintro e w7 ⟨BA,bc,rfl,hob,⟨x7,hx7⟩,hb7⟩
  have hat:x7=l.length:=by have:=hx7.len;simpa using this
  subst hat
  have hs7:=HS6.out.next ⟨_,hx7⟩ hb7
  have d4:=hs7.g.cell 4
  have f4:=hs7.g.frozen 4
  have l7:=hs7.g.lt
  have hs7':=hs7.s4 (.slice BA b.length bc)
  have HS7:=Hd hs7'
  have hr7:=(hs7.far 4 (.slice BA b.length bc)).1
  obtain⟨x8,hx8⟩:=hr7
  have hat:x8=l.length:=by have:=hx8.len;simpa using this
  subst hat
  have hsz6:=HS6.out.bw.size
  have hlt6:=HS6.out.g.lt
  have HOB:=Hd hob
  have HOF:=Hd (Zey (Zb5 HO6.out hlt5 (p:=⟨w.heap.size,3,none⟩) (.slice FA fs.length fc)) hlr5 hb7)
  have HF:=Hd (Zom hx8.rd)
  have HX8:=Hd hx8
  clear hx7 hb7 hs7 hs7' hob hx8
  go_wp2_with fail
  refine Mo HF ?_
  rintro e w9 ⟨rfl,rfl⟩
  obtain⟨W7,hW7⟩:=exl (w7.setCell ⟨w.heap.size,4,none⟩ (.slice BA b.length bc))
  have HW7:=Hd hW7
  have hg7:=HS7.out.g
  have hr7:=HX8.out.rd.blk
  rw[hW7]at hg7 hr7⊢
  have g0:=hg7.cell 0
  have g1:=hg7.cell 1
  have g2:=hg7.cell 2
  have g3:=hg7.cell 3
  have g4:=hg7.cell 4
  have k0:=hg7.frozen 0
  have k1:=hg7.frozen 1
  have k2:=hg7.frozen 2
  have k3:=hg7.frozen 3
  have k4:=hg7.frozen 4
  have r1:=hr7.cell 1
  have gl:=hg7.lt
  have rl:=hr7.lt
  have HG7:=Hd hg7
  clear hg7 hr7 hW7
  go_wp2_with fail
  go_region
  all_goals
   go_wp2
   refine bodyPost_ret (Za6 rfl _ _ w.heap.size _ _ _ rfl (Zls HG7.out).drew underlying25 rfl Zh9) rfl ?_
   refine⟨_,rfl,FA,fc,BA,bc,rfl,?_,?_,?_⟩
   ·refine Zdk (Znr (w:=W7) ?_ hlt5 _ _ _ _ _) hsz5
    rw[<-HW7.out]
    exact Zb5 HOF.out hlt5 _
   ·refine Zdk (Znr (w:=W7) ?_ hlt6 _ _ _ _ _) hsz6
    rw[<-HW7.out]
    exact Zb5 HOB.out hlt6 _
   ·refine Zmo ?_ (Nat.le_refl _) _ _ _ _ _
    have:=HS7.out.bw
    rwa [HW7.out]at this
def Pow (w:World):Prop:=Lib.TabIs prog w "internal/strconv.uint64pow10" .u64 Lib.pow10Tab
theorem Pow.next {w w':World}(h:Pow w)(hb:Below w.heap.size w w'):Pow w':=by
 unfold Pow Lib.TabIs World.var? at h⊢
 rw[<-h]
 cases hg:prog.globalNamed "internal/strconv.uint64pow10" with
 | none=>rfl
 | some g=>
  rw[hg]at h
  simp only[Option.bind_some]at h⊢
  have hlt:g < w.heap.size:=by
   rcases Nat.lt_or_ge g w.heap.size with h1 | h1
   ·exact h1
   ·rw[Array.getElem?_eq_none h1]at h
    cases h
  rw[hb.block g hlt]
theorem Zgz (n:Nat)(hn:n<=9223372036854775807)(w:World)(h:Pow w):
  CA 28 #[.int .i64 ((n:Nat):Int)] w fun e w'=>e=.returned (.string ⟨(Lib.decDigits n).toArray⟩)/\Below w.heap.size w w':=by
 refine(Tryz.strconv_Itoa ((n:Nat):Int) (by omega) (by omega) w h).mono ?_
 rintro e w' ⟨he,k,os,rfl⟩
 refine⟨?_,Lib.below_grow _ w (Nat.le_refl _) k os⟩
 rw[he,Lib.itoa_nonneg]
def Zxh (w:World):Prop:=∃m:Int,w.cell? ⟨1,0,none⟩=some (.int .i64 m)
theorem Zxh.next {w w':World}(h:Zxh w)(hb:Below w.heap.size w w'):Zxh w':=by
 obtain⟨m,hm⟩:=h
 exact⟨m,(hb.cell (World.block_lt_of_cell? w _ hm)).trans hm⟩
theorem Z0z (v:List UInt8)(hv:v.length<=400):(Zs4 v).length<=401:=by
 unfold Zs4
 have h1:=Zmm Zrx (Lib.count v Zrx) v
 have h2:=Lib.countB_le ⟨Zrx.toArray⟩ (by decide) v.length ⟨v.toArray⟩ (Nat.le_refl _)
 have h3:Lib.countB ⟨v.toArray⟩ ⟨Zrx.toArray⟩=Lib.count v Zrx:=rfl
 have h4:(ByteArray.mk v.toArray).size=v.length:=rfl
 omega
theorem Zvn (v:List UInt8)(hv:v.length<=400)(w:World)(hM:Zxh w):
  CA 38 #[.string ⟨v.toArray⟩,.string ⟨#[59,32]⟩] w fun e w'=>e=.returned (.slice (some ⟨w.heap.size,0,none⟩) (Zs4 v).length (Zs4 v).length)/\(∀j (h:j < (Zs4 v).length),w'.cell? ⟨w.heap.size,j,none⟩=some (.string ⟨(Zs4 v)[j].toArray⟩))/\Below w.heap.size w w':=by
 obtain⟨m,hm⟩:=hM
 have hsz:(ByteArray.mk v.toArray).size=v.length:=rfl
 refine(Tryz.strings_Split ⟨v.toArray⟩ ⟨#[59,32]⟩ m w (by rw[hsz];omega) hm (by decide)).mono ?_
 rintro e w' ⟨rfl,rfl⟩
 have hd:(Lib.splitB ⟨#[59,32]⟩ 0 (Lib.countB ⟨v.toArray⟩ ⟨#[59,32]⟩) ⟨v.toArray⟩).map (·.data.toList)=Zs4 v:=Lib.splitB_data ⟨#[59,32]⟩ 0 _ ⟨v.toArray⟩
 have hl:=Lib.splitB_all ⟨#[59,32]⟩ (by decide) 0 _ ⟨v.toArray⟩ rfl
 have hlen:(Zs4 v).length=Lib.countB ⟨v.toArray⟩ ⟨#[59,32]⟩+1:=by rw[<-hd,List.length_map,hl]
 refine⟨by rw[hlen],fun j hj=> ?_,(Below.refl _ _).alloc (Nat.le_refl _) _⟩
 rw[cell_of_row _ _ _ _ _ _ (heap_alloc_new w _)]
 have hj2:j < (Lib.splitB ⟨#[59,32]⟩ 0 (Lib.countB ⟨v.toArray⟩ ⟨#[59,32]⟩) ⟨v.toArray⟩).length:=by rw[hl,<-hlen];exact hj
 have hg:(Zs4 v)[j]=(Lib.splitB ⟨#[59,32]⟩ 0 (Lib.countB ⟨v.toArray⟩ ⟨#[59,32]⟩) ⟨v.toArray⟩)[j].data.toList:=by
  have:(Zs4 v)[j]? =some (Lib.splitB ⟨#[59,32]⟩ 0 (Lib.countB ⟨v.toArray⟩ ⟨#[59,32]⟩) ⟨v.toArray⟩)[j].data.toList:=by
   rw[<-hd,List.getElem?_map,List.getElem?_eq_getElem hj2]
   rfl
  rw[List.getElem?_eq_getElem hj]at this
  exact Option.some.inj this
 rw[List.getElem?_toArray,List.getElem?_map,List.getElem?_eq_getElem hj2,hg]
 rfl
theorem expF_len (f:Fld)(hf:f.2.length<=400):(Z0j f).length<=401:=by
 unfold Z0j
 split
 ·rw[List.length_map];exact Z0z f.2 hf
 ·simp
theorem Zoo :∀(fs:List Fld),(∀f∈fs,f.2.length<=400)->(Zjy fs).length<=401*fs.length
 | [],_=>by simp[Zjy]
 | f::fs,h=>by
  have h1:=expF_len f (h f (List.mem_cons_self ..))
  have h2:=Zoo fs fun g hg=>h g (List.mem_cons_of_mem _ hg)
  show(Z0j f++Zjy fs).length<=_
  rw[List.length_append,List.length_cons]
  omega
theorem Zx9 (w:World)(m p h:List UInt8):(w.alloc (.cells #[.string ⟨Zhg.toArray⟩,.string ⟨m.toArray⟩,.string ⟨Zi7.toArray⟩,.string ⟨p.toArray⟩,.string ⟨Zho.toArray⟩,.string ⟨h.toArray⟩] 41)).ownsRow w.heap.size 41 2 (.slice (some ⟨w.heap.size,0,none⟩) 3 3) 3 (fvs (Zc3 m p h [])):=
 ⟨rfl,.inr ⟨w.heap.size,3,_,rfl,Nat.le_refl _,heap_alloc_new w _,Nat.le_refl _,by decide,rfl,rfl⟩⟩
structure LiSt (w wr:World)(v:Value)(xs:List Fld):Prop where
 own:wr.ownsRow w.heap.size 41 2 v xs.length (fvs xs)
 bw:Below w.heap.size w wr
theorem LiSt.kept {w wr w1:World}{v:Value}{xs:List Fld}(h:LiSt w wr v xs)(hb:Below wr.heap.size wr w1):LiSt w w1 v xs:=
 ⟨Za3 h.own (Zax.of_below (S:=fun _=>False) hb) fun _ _ h=>h,h.bw.trans (hb.mono h.bw.size)⟩
def PcS (w:World)(b:Nat)(ps:List (List UInt8)):Prop:=b < w.heap.size/\∀j (h:j < ps.length),w.cell? ⟨b,j,none⟩=some (.string ⟨ps[j].toArray⟩)
theorem PcS.kept {w w1:World}{b:Nat}{ps:List (List UInt8)}(h:PcS w b ps)(hb:Below w.heap.size w w1):PcS w1 b ps:=
 ⟨Nat.lt_of_lt_of_le h.1 hb.size,fun j hj=>(hb.cell (p:=⟨b,j,none⟩) h.1).trans (h.2 j hj)⟩
theorem PcS.grown {w w1:World}{b:Nat}{ps:List (List UInt8)}{row:Option Nat}(h:PcS w b ps)(hg:w.grownBy w1 row)(hne:row≠some b):PcS w1 b ps:=
 ⟨Nat.lt_of_lt_of_le h.1 hg.size,fun j hj=>hg.cell (h.2 j hj) (fun e=>hne e.symm)⟩
theorem Zya (fs:List Fld){k:Nat}(h:k < fs.length)(m p hh:List UInt8):Zc3 m p hh (fs.take (k+1))=Zc3 m p hh (fs.take k)++Z0j fs[k]:=by
 rw[List.take_succ_eq_append_getElem h,Zp3]
 simp[Zjy]
theorem Zoj (m p h:List UInt8)(fs:List Fld)(nb:Nat)(hE:Zf8 m p h fs nb=0)(FA:Option Addr)(fn fc:Nat)(hfn:fn=fs.length)(BA:Option Addr)(bc:Nat)(w:World)(hM:Zxh w)(hr:Zab w w.heap.size 2 FA fs.length (fvs fs)):
  CA 8 #[.agg (Zcf m p h FA fn fc BA nb bc)] w fun e w'=>∃A c,e=.returned (.tuple #[.slice A (Zc3 m p h fs).length c,.nilIface])/\w'.ownsRow w.heap.size 41 2 (.slice A (Zc3 m p h fs).length c) (Zc3 m p h fs).length (fvs (Zc3 m p h fs))/\Below w.heap.size w w':=by
 subst hfn
 obtain⟨q1,q2,q3,q4,q5,q6,q7⟩:=Zdw hE
 have hgood:=Zdu fs q7
 have hsh:=Zg3 q1 hgood
 have hlong:Zjm fs:=fun f hf=>by have:=hsh.2 f hf;omega
 obtain⟨W,hW⟩:=exl (w.alloc (.cells (Zcf m p h FA fs.length fc BA nb bc) 25))
 have q:∀w1,Below W.heap.size W w1->w1.cell? ⟨w.heap.size,0,none⟩=some (.string ⟨m.toArray⟩)/\w1.cell? ⟨w.heap.size,1,none⟩=some (.string ⟨p.toArray⟩)/\w1.cell? ⟨w.heap.size,2,none⟩=some (.string ⟨h.toArray⟩)/\w1.cell? ⟨w.heap.size,3,none⟩=some (.slice FA fs.length fc)/\w1.cell? ⟨w.heap.size,4,none⟩=some (.slice BA nb bc)/\w.heap.size < w1.heap.size/\Below w.heap.size w w1:=by
  intro w1 h1
  rw[<-hW]at h1
  have hb:=Blk.new w 25 (Zcf m p h FA fs.length fc BA nb bc)
  have hb2:=hb.below h1 hb.lt
  have hba:Below w.heap.size w (w.alloc (.cells (Zcf m p h FA fs.length fc BA nb bc) 25)):=(Below.refl _ _).alloc (Nat.le_refl _) _
  exact⟨hb2.cell 0,hb2.cell 1,hb2.cell 2,hb2.cell 3,hb2.cell 4,hb2.lt,hba.trans (h1.mono hba.size)⟩
 obtain⟨d0,d1,d2,d3,d4,dl,hbW⟩:=q W (Below.refl _ _)
 have HQ:=Hd q
 have HR:=Hd hr
 have HMX:=Hd hM
 have HSH:=Hd hsh
 have hfl40:=q1
 have HC:=Hd (show CA 26 #[.agg (Zcf m p h FA fs.length fc BA nb bc)] W fun e w'=>e=.returned .nilIface/\Below W.heap.size W w' from by
  have h0:=Zex m p h fs (by have:=(Zcv q3).2.1;omega) (by have:=(Zb1 q4).2.1;omega) (by have:=Zbx q6;omega) hlong (by omega) FA fs.length fc rfl BA nb bc W ((hr.below hbW).more hbW.size)
  rw[hE]at h0
  exact h0)
 clear hE hr hM q hsh hlong hgood q1 q2 q3 q4 q5 q6 q7 hbW
 have HW:=Hd hW
 go_enter func8,ntmps8
 go_wp2_with fail
 refine Mo HC ?_
 rintro e w1 ⟨rfl,hb1⟩
 obtain⟨d0,d1,d2,d3,d4,dl,hbw1⟩:=HQ.out w1 hb1
 have HB1:=Hd hbw1
 have h3o:=Zx9 w1 m p h
 have HL0:=Hd (show LiSt w (w1.alloc (.cells #[.string ⟨Zhg.toArray⟩,.string ⟨m.toArray⟩,.string ⟨Zi7.toArray⟩,.string ⟨p.toArray⟩,.string ⟨Zho.toArray⟩,.string ⟨h.toArray⟩] 41)) (.slice (some ⟨w1.heap.size,0,none⟩) 3 3) (Zc3 m p h [])from⟨Zdk h3o hbw1.size,hbw1.alloc hbw1.size _⟩)
 clear hb1 hbw1 h3o hW
 go_wp2_with fail
 go_loopg [5,28] fs.length (fun mm v5 i wr=>∃(k N:Nat) (A:Option Addr) (c:Nat),mm+k=fs.length/\v5=.slice A N c/\i=.int .i64 ((k:Nat):Int)/\Hid (N=(Zc3 m p h (fs.take k)).length)/\Hid (LiSt w wr (.slice A N c) (Zc3 m p h (fs.take k))))
 case atStart=>exact⟨0,3,_,3,rfl,rfl,rfl,rfl,HL0.out⟩
 case round=>
  clear HL0
  obtain⟨k,N,A,c,hk,rfl,rfl,HN,HL⟩:=hrel
  have hkl:k<=fs.length:=by omega
  have HK:=Hd hk
  clear hk
  obtain⟨g0,hg0⟩:∃g0,g0=gk:=⟨_,rfl⟩
  subst hg0
  obtain⟨w8,hw8⟩:∃w8,w8=wr:=⟨_,rfl⟩
  subst hw8
  by_cases hlt:k < fs.length
  ·obtain⟨b,off,hA,hbB,hcl⟩:=Zb4 (HR.out.below HL.out.bw) (by omega)
   subst hA
   obtain⟨c0,c1⟩:=hcl k hlt
   have hsh:=HSH.out.2 fs[k] (List.getElem_mem hlt)
   have htk:=Zya fs hlt m p h
   have hexl:=Zoo (fs.take k) (fun f hf=>(HSH.out.2 f (List.mem_of_mem_take hf)).2)
   have htl:(fs.take k).length<=k:=List.length_take_le _ _
   have hNl:N<=20000:=by
    have:=HN.out
    simp only[Zc3,List.length_cons]at this
    omega
   obtain⟨f,hfk⟩:=exl (fs[k])
   rw[hfk]at c0 c1 hsh htk
   have hbw:=Nat.lt_of_lt_of_le hbB HL.out.bw.size
   have hki:((k:Nat):Int) < ((fs.length:Nat):Int):=by omega
   obtain⟨f1,f2⟩:=f
   simp only at c0 c1 hsh
   obtain⟨hs1,hs2⟩:=hsh
   obtain⟨xs,hxs⟩:=exl (Zc3 m p h (fs.take k))
   rw[hxs]at htk HL HN
   have HTK:=Hd htk
   have hba:Below w8.heap.size w8 (w8.alloc (.cells #[.string ⟨f1.toArray⟩,.string ⟨f2.toArray⟩] 41)):=(Below.refl _ _).alloc (Nat.le_refl _) _
   have HLA:=Hd (HL.out.kept hba)
   have hwz:=HL.out.bw.size
   clear hcl hbB hfk hexl htl hxs hba htk
   by_cases hck:f1=Zbq
   ·subst hck
    have e0:(([99,111,111,107,105,101]:List UInt8)==[99,111,111,107,105,101])=true:=rfl
    have he:Z0j (Zbq,f2)=(Zs4 f2).map fun x=>(Zbq,x):=by unfold Z0j;rw[if_pos rfl]
    have HE:=Hd he
    have HSP:=Hd (Zvn f2 hs2 (w8.alloc (.cells #[.string ⟨Zbq.toArray⟩,.string ⟨f2.toArray⟩] 41)) (HMX.out.next HLA.out.bw))
    have hcl:=Z0z f2 hs2
    obtain⟨ps,hps⟩:=exl (Zs4 f2)
    rw[hps]at HSP HE hcl
    have HFC:=Hd ((Blk.new w8 41 #[.string ⟨Zbq.toArray⟩,.string ⟨f2.toArray⟩]).cell 1)
    have HPS:=Hd hps
    clear he hps
    go_wp2_with fail
    refine Mo HSP ?_
    rintro e w2 ⟨rfl,hpc,hb2⟩
    have hHL2:=HLA.out.kept hb2
    have hPC:Hid (PcS w2 (w8.heap.size+1) ps):=by
     have hz:(w8.alloc (.cells #[.string ⟨Zbq.toArray⟩,.string ⟨f2.toArray⟩] 41)).heap.size=w8.heap.size+1:=by simp
     rw[hz]at hpc
     obtain⟨z,zs,hzs⟩:∃z zs,ps=z::zs:=by
      cases ps with
      | nil=>exact absurd HPS.out (cut_ne f2)
      | cons z zs=>exact⟨z,zs,rfl⟩
     exact⟨World.block_lt_of_cell? w2 _ (hpc 0 (by rw[hzs];simp)),hpc⟩
    have HL2:=Hd hHL2
    have HNE:=Hd (show(Value.slice A N c).ownBlock≠some (w8.heap.size+1)from fun e=>by have:=(HLA.out.own.lt _ e).2;simp at this)
    clear hpc hb2 hHL2
    go_wp2_with fail
    go_loopg [5,43] ps.length (fun mm v5 i w3=>∃(j N3:Nat) (A3:Option Addr) (c3:Nat),mm+j=ps.length/\v5=.slice A3 N3 c3/\i=.int .i64 ((j:Nat):Int)/\Hid (N3=(xs++(ps.take j).map fun x=>(Zbq,x)).length)/\Hid (LiSt w w3 (.slice A3 N3 c3) (xs++(ps.take j).map fun x=>(Zbq,x)))/\Hid (PcS w3 (w8.heap.size+1) ps)/\Hid ((Value.slice A3 N3 c3).ownBlock≠some (w8.heap.size+1)))
    case atStart=>exact⟨0,N,A,c,rfl,rfl,rfl,(show N=_ by simpa using HN.out),(show LiSt _ _ _ _ by simpa using HL2.out),hPC.out,HNE.out⟩
    case round=>
     clear HL2 HNE hPC
     obtain⟨j,N3,A3,c3,hj,rfl,rfl,HN3,HL3,HP3,HNE3⟩:=hrel
     have HJ:=Hd hj
     have hjl:j<=ps.length:=by omega
     clear hj
     by_cases hlj:j < ps.length
     ·have hpj:=HP3.out.2 j hlj
      have htj:ps.take (j+1)=ps.take j++[ps[j]]:=List.take_succ_eq_append_getElem hlj
      have hN3l:N3<=30000:=by
       have h1:=HN3.out
       have h2:=HN.out
       rw[List.length_append,List.length_map,List.length_take]at h1
       omega
      obtain⟨x,hx⟩:=exl (ps[j])
      rw[hx]at hpj htj
      have HTJ:=Hd htj
      have hji:((j:Nat):Int) < ((ps.length:Nat):Int):=by omega
      have hpl:=HP3.out.1
      have hw3:=HL3.out.bw.size
      have HO3:=Hd (show wr.ownsRow w.heap.size 41 2 (.slice A3 N3 c3) N3 (fvs (xs++(ps.take j).map fun x=>(Zbq,x)))by have h9:=HL3.out.own;rwa [<-HN3.out]at h9)
      clear htj hx
      go_wp2_with (at_builtin;refine Zd1 rfl _ _ rfl w.heap.size _ _ (xs++(ps.take j).map fun x=>(Zbq,x)) rfl HO3.out (Zbq,x) _ rfl (by simp) (by omega) (by omega) ?_;intro A5 c5 w5 hown5 hg5 hv5 hb5;have HO5:=Hd hown5;have HG5:=Hd hg5;have HV5:=Hd hv5;have HB5:=Hd hb5;clear hown5 hg5 hv5 hb5)
      go_roundg (gk-1)
      case measure=>have:=HJ.out;omega
      case rel=>
       have hl:(xs++(ps.take (j+1)).map fun x=>(Zbq,x))=(xs++(ps.take j).map fun x=>(Zbq,x))++[(Zbq,x)]:=by rw[HTJ.out];simp
       refine⟨j+1,N3+1,A5,c5,by have:=HJ.out;omega,rfl,by go_num,?_,?_,?_,?_⟩
       ·show N3+1=_
        rw[hl,List.length_append,<-HN3.out]
        rfl
       ·show LiSt _ _ _ _
        rw[hl]
        refine⟨?_,HL3.out.bw.trans HB5.out⟩
        rw[List.length_append,<-HN3.out]
        exact HO5.out
       ·exact((HP3.out.kept ((Below.refl _ _).alloc (Nat.le_refl _) _)).grown HG5.out HNE3.out)
       ·show(Value.slice A5 (N3+1) c5).ownBlock≠_
        rcases HV5.out with h9 | h9
        ·rw[h9];exact HNE3.out
        ·rw[h9];intro e;injection e with e;omega
     ·have hj2:j=ps.length:=by omega
      subst hj2
      have hji:¬((ps.length:Nat):Int) < ((ps.length:Nat):Int):=by omega
      have hl:(xs++(ps.take ps.length).map fun x=>(Zbq,x))=Zc3 m p h (fs.take (k+1)):=by rw[List.take_length,HTK.out,HE.out]
      have HLE:=Hd hl
      clear hl
      go_wp2_with fail
      go_roundg (g0-1)
      case measure=>have:=HK.out;omega
      case rel=>
       refine⟨k+1,N3,A3,c3,by have:=HK.out;omega,rfl,by go_num,?_,?_⟩
       ·show N3=_
        rw[<-HLE.out];exact HN3.out
       ·show LiSt _ _ _ _
        rw[<-HLE.out];exact HL3.out
   ·have e0:(f1==[99,111,111,107,105,101])=false:=beq_eq_false_iff_ne.2 hck
    have he:Z0j (f1,f2)=[(f1,f2)]:=by unfold Z0j;rw[if_neg hck]
    have HE:=Hd he
    have HO:=Hd (show(w8.alloc (.cells #[.string ⟨f1.toArray⟩,.string ⟨f2.toArray⟩] 41)).ownsRow w.heap.size 41 2 (.slice A N c) N (fvs xs)by have h9:=HLA.out.own;rwa [<-HN.out]at h9)
    clear hck he
    go_wp2_with (at_builtin;refine Zjf rfl _ _ rfl w.heap.size _ _ xs rfl HO.out (f1,f2) _ rfl (by simp) (by omega) (by simp;omega) ?_;intro A5 c5 w5 hown5 hb5 hc5;have HO5:=Hd hown5;have HB5:=Hd hb5;clear hown5 hb5 hc5)
    go_roundg (g0-1)
    case measure=>have:=HK.out;omega
    case rel=>
     refine⟨k+1,N+1,A5,c5,by have:=HK.out;omega,rfl,by go_num,?_,?_,?_⟩
     ·show N+1=_
      rw[HTK.out,HE.out,List.length_append,<-HN.out]
      rfl
     ·rw[HTK.out,HE.out]
      rw[show(xs++[(f1,f2)]).length=N+1 by rw[List.length_append,<-HN.out];rfl]
      exact HO5.out
     ·exact HLA.out.bw.trans HB5.out
  ·have hk2:k=fs.length:=by omega
   subst hk2
   have hki:¬((fs.length:Nat):Int) < ((fs.length:Nat):Int):=by omega
   go_wp2
   go_ret2
   have hN:=HN.out
   have hL:=HL.out
   rw[List.take_length]at hN hL
   subst hN
   exact⟨A,c,rfl,hL.own,hL.bw⟩
end
end Go.Proofs.YtbgnggkgmeagkaaGreatDoor
