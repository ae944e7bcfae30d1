/-
  A part of the proof of TopAlike: each theorem states its own conditions.
-/
import Derived.Test.YtbgnggkgmeagkaaGreatDoorMTopAlike04
set_option linter.unusedSimpArgs false
set_option linter.unusedVariables false
set_option maxRecDepth 100000
set_option maxHeartbeats 16000000
namespace Go.Proofs.YtbgnggkgmeagkaaGreatDoor
open Go.Proofs.Tryz
section
def Zhf (l:List UInt8):List UInt8:=if l.length<=(enc l).length then l else enc l
def Zju (l:List UInt8):Int:=if l.length<=(enc l).length then 0 else 128
def Zco (l:List UInt8):List UInt8:=if 400 < l.length then []else Zd4 ((Zhf l).length:Nat) 7 (Zju l)++Zhf l
def Zxg (l:List UInt8):Nat:=if 400 < l.length then 4 else 0
theorem Znj (l:List UInt8):(Zhf l).length<=l.length:=by
 unfold Zhf
 split <;> omega
theorem Zo9 (l:List UInt8)(h:l.length<=400):Zjw ((Zhf l).length:Nat) 7 (Zju l):=by
 have hc:=Znj l
 unfold Zjw Zju
 split <;> simp <;> omega
theorem txt_putE (l:List UInt8)(h:l.length<=400):putE ((Zhf l).length:Nat) 7 (Zju l)=0:=by
 rw[putE,if_pos (Zo9 l h)]
theorem Zjh (n:Nat)(f:Int)(h:n<=2147483647):(Zd4 (n:Nat) 7 f).length<=1000:=by
 unfold Zd4
 split
 ·have:=Zky (n:Int).toNat (7:Int).toNat (by omega) f.toNat
  omega
 ·simp
def Zbv (l:List UInt8):List UInt8×Nat×Nat:=
 if(Zbi l 7).2.2≠0 then([],0,(Zbi l 7).2.2)
 else if 400 < (Zbi l 7).1 then([],0,4)
 else if l.length < (Zbi l 7).2.1+(Zbi l 7).1 then([],0,8)
 else match (if 128<=(l.headD 0).toNat then Zda ((l.drop (Zbi l 7).2.1).take (Zbi l 7).1)else some ((l.drop (Zbi l 7).2.1).take (Zbi l 7).1))with
  | none=>([],0,2)
  | some s=>if 400 < s.length then([],0,4)else if Zco s=l.take ((Zbi l 7).2.1+(Zbi l 7).1)then(s,(Zbi l 7).2.1+(Zbi l 7).1,0)else([],0,2)
theorem Zy0 (n t f:Nat):∃r,Zc9 n t f=UInt8.ofNat (f+if n < 2 ^ t-1 then n else 2 ^ t-1)::r/\Zc9 n t 0=UInt8.ofNat (if n < 2 ^ t-1 then n else 2 ^ t-1)::r:=by
 by_cases h:n < 2 ^ t-1
 ·exact⟨[],by simp[Zc9,h],by simp[Zc9,h]⟩
 ·exact⟨Zm6 (n-(2 ^ t-1)),by simp[Zc9,h],by simp[Zc9,h]⟩
theorem high_low (t f m:Nat)(ht:1<=t)(ht8:t<=8)(hf:f % 2 ^ t=0)(hf2:f<=255)(hm:m < 2 ^ t):f+m < 256/\(f+m) % 2 ^ t=m:=by
 rcases(by omega:t=1∨t=2∨t=3∨t=4∨t=5∨t=6∨t=7∨t=8)with rfl | rfl | rfl | rfl | rfl | rfl | rfl | rfl <;> simp at* <;> omega
theorem getV_low {c d:UInt8}(r:List UInt8)(t:Int)(h:c.toNat % 2 ^ t.toNat=d.toNat % 2 ^ t.toNat):Zbi (c::r) t=Zbi (d::r) t:=by
 simp only[Zbi,h]
theorem Zfh (n t f:Nat)(b:List UInt8)(ht:1<=t)(ht8:t<=8)(hn:n<=2147483647)(hf:f % 2 ^ t=0)(hf2:f<=255):
  Zbi (Zc9 n t f++b) (t:Int)=(n,(Zc9 n t f).length,0)/\f<=((Zc9 n t f++b).headD 0).toNat/\((Zc9 n t f++b).headD 0).toNat < f+2 ^ t/\Zc9 n t f≠[]:=by
 obtain⟨r,h1,h2⟩:=Zy0 n t f
 have hp:=Zcn ht ht8
 have hg:=getV_put n t b ht ht8 hn
 have hl:(Zc9 n t 0).length=(Zc9 n t f).length:=by rw[h1,h2];rfl
 obtain⟨m,hm⟩:=exl ((if n < 2 ^ t-1 then n else 2 ^ t-1))
 have hm2:m < 2 ^ t:=by
  rw[<-hm]
  split <;> omega
 rw[hm]at h1 h2
 obtain⟨e1,e2⟩:=high_low t f m ht ht8 hf hf2 hm2
 have t1:=Zb0 e1
 have t2:=Zb0 (show m < 256 by omega)
 refine⟨?_,?_,?_,by rw[h1];simp⟩
 ·rw[<-hl,<-hg,h1,h2]
  simp only[List.cons_append]
  refine getV_low _ _ ?_
  rw[Int.toNat_natCast,t1,t2,e2,Nat.mod_eq_of_lt hm2]
 ·rw[h1,List.cons_append,List.headD_cons,t1]
  omega
 ·rw[h1,List.cons_append,List.headD_cons,t1]
  omega
theorem txtL_ok (s:List UInt8)(h:s.length<=400):Zco s=Zc9 (Zhf s).length 7 (Zju s).toNat++Zhf s:=by
 have hk:=Zo9 s h
 unfold Zco
 rw[if_neg (by omega),Zd4,if_pos hk]
 rfl
theorem Zkx (s b:List UInt8)(h:s.length<=400):Zbv (Zco s++b)=(s,(Zco s).length,0):=by
 have hC:=Znj s
 have hk:=txtL_ok s h
 have hF:(Zju s).toNat % 2 ^ 7=0/\(Zju s).toNat<=255:=by
  unfold Zju
  split <;> simp
 obtain⟨g1,g2,g3,_⟩:=Zfh (Zhf s).length 7 (Zju s).toNat (Zhf s++b) (by omega) (by omega) (by omega) hF.1 hF.2
 have e:Zco s++b=Zc9 (Zhf s).length 7 (Zju s).toNat++(Zhf s++b):=by rw[hk,List.append_assoc]
 have hlen:(Zco s).length=(Zc9 (Zhf s).length 7 (Zju s).toNat).length+(Zhf s).length:=by rw[hk,List.length_append]
 have g1':Zbi (Zco s++b) 7=((Zhf s).length,(Zc9 (Zhf s).length 7 (Zju s).toNat).length,0):=by rw[e];exact g1
 have hd:((Zco s++b).drop (Zc9 (Zhf s).length 7 (Zju s).toNat).length).take (Zhf s).length=Zhf s:=by
  rw[e,List.drop_left,List.take_left]
 have ht:(Zco s++b).take ((Zc9 (Zhf s).length 7 (Zju s).toNat).length+(Zhf s).length)=Zco s:=by
  rw[<-hlen,List.take_left]
 rw[<-e]at g2 g3
 unfold Zbv
 simp only[g1',hd,ht]
 rw[if_neg (by simp),if_neg (by omega),if_neg (by rw[List.length_append];omega)]
 by_cases hle:s.length<=(enc s).length
 ·have hFz:(Zju s).toNat=0:=by simp[Zju,hle]
  have hCs:Zhf s=s:=by simp[Zhf,hle]
  rw[if_neg (by omega)]
  rw[hCs]at hlen⊢
  simp only
  rw[if_neg (by omega),if_pos trivial,hlen]
 ·have hFz:(Zju s).toNat=128:=by simp[Zju,hle]
  have hCs:Zhf s=enc s:=by simp[Zhf,hle]
  rw[if_pos (by omega),hCs,Zw4]
  simp only
  rw[if_neg (by omega),if_pos trivial,hlen,hCs]
theorem Zen {l:List UInt8}{t:Int}(h:(Zbi l t).2.2=0):1<=(Zbi l t).2.1/\(Zbi l t).2.1<=l.length/\(Zbi l t).1<=2147483647:=by
 match l,h with
 | [],h=>
  simp only[Zbi]at h
  split at h <;> simp at h
 | c::r,h=>
  obtain⟨N,U,hV⟩:∃N U,Zbi (c::r) t=(N,U,0):=⟨_,_,by rw[<-h]⟩
  obtain⟨_,_,hN,hU,hU2,_⟩:=put_getV c r t N U hV
  rw[hV]
  exact⟨hU,by simpa using hU2,hN⟩
theorem Zfa {l:List UInt8}(h:(Zbv l).2.2=0):1<=(Zbv l).2.1/\(Zbv l).2.1<=l.length/\(Zbv l).1.length<=400:=by
 unfold Zbv at h⊢
 by_cases h1:(Zbi l 7).2.2≠0
 ·rw[if_pos h1]at h
  exact absurd h h1
 have hu:=Zen (Decidable.not_not.1 h1)
 rw[if_neg h1]at h⊢
 by_cases h2:400 < (Zbi l 7).1
 ·rw[if_pos h2]at h;simp at h
 rw[if_neg h2]at h⊢
 by_cases h3:l.length < (Zbi l 7).2.1+(Zbi l 7).1
 ·rw[if_pos h3]at h;simp at h
 rw[if_neg h3]at h⊢
 split at h
 ·simp at h
 ·rename_i s hs
  by_cases h4:400 < s.length
  ·rw[if_pos h4]at h;simp at h
  rw[if_neg h4]at h⊢
  by_cases h5:Zco s=l.take ((Zbi l 7).2.1+(Zbi l 7).1)
  ·rw[if_pos h5]
   simp only
   exact⟨by omega,by omega,by omega⟩
  ·rw[if_neg h5]at h;simp at h
def Zdd (_mx:Nat)(xs:List Fld)(f:Fld):List UInt8:=
 if fnd (isF f) (Zb9 xs)≠0 then Zd4 (fnd (isF f) (Zb9 xs):Nat) 7 128
 else Zd4 (fnd (isN f) (Zb9 xs):Nat) 6 64++(if fnd (isN f) (Zb9 xs)=0 then Zco f.1 else [])++Zco f.2
def Zem (mx:Nat)(xs:List Fld)(f:Fld):List Fld:=if fnd (isF f) (Zb9 xs)≠0 then xs else Zrs mx xs f
def Za0 (mx:Nat):List Fld->List Fld->List UInt8
 | _,[]=> []
 | xs,f::l=>Zdd mx xs f++Za0 mx (Zem mx xs f) l
def Zcs (mx:Nat):List Fld->List Fld->List Fld
 | xs,[]=>xs
 | xs,f::l=>Zcs mx (Zem mx xs f) l
def Zf4 (p:Nat)(r:List Nat):Nat:=r.foldl min p
def Zdq :List Nat->List UInt8
 | []=> []
 | p::r=>Zd4 (Zf4 p r:Nat) 5 32++(if Zf4 p r < (p::r).getLast (by simp)then Zd4 ((p::r).getLast (by simp):Nat) 5 32 else [])
def Za2 (l:List Fld):Bool:=decide (40 < l.length) || decide (2000 < wt l)
def Zci (l:List Fld):Bool:=l.any fun f=>decide (400 < f.1.length) || decide (400 < f.2.length)
def Ze7 (l:List Fld):Nat:=if Za2 l || Zci l then 4 else 0
def Zj6 (xs:List Fld)(b:List UInt8)(t:Int):Fld×Nat×Nat:=
 if(Zbi b t).2.2≠0 then(([],[]),0,(Zbi b t).2.2)
 else if 12+xs.length < (Zbi b t).1 then(([],[]),0,5)
 else if 0 < (Zbi b t).1 then
  if(Zbv (b.drop (Zbi b t).2.1)).2.2≠0 then(([],[]),0,(Zbv (b.drop (Zbi b t).2.1)).2.2)
  else((((Zb9 xs).getD ((Zbi b t).1-1) ([],[])).1,(Zbv (b.drop (Zbi b t).2.1)).1),(Zbi b t).2.1+(Zbv (b.drop (Zbi b t).2.1)).2.1,0)
 else if(Zbv (b.drop (Zbi b t).2.1)).2.2≠0 then(([],[]),0,(Zbv (b.drop (Zbi b t).2.1)).2.2)
 else if(Zbv (b.drop ((Zbi b t).2.1+(Zbv (b.drop (Zbi b t).2.1)).2.1))).2.2≠0 then(([],[]),0,(Zbv (b.drop ((Zbi b t).2.1+(Zbv (b.drop (Zbi b t).2.1)).2.1))).2.2)
 else(((Zbv (b.drop (Zbi b t).2.1)).1,(Zbv (b.drop ((Zbi b t).2.1+(Zbv (b.drop (Zbi b t).2.1)).2.1))).1),
  (Zbi b t).2.1+(Zbv (b.drop (Zbi b t).2.1)).2.1+(Zbv (b.drop ((Zbi b t).2.1+(Zbv (b.drop (Zbi b t).2.1)).2.1))).2.1,0)
structure Step where
 e:Nat
 xs:List Fld
 mx:Nat
 l:List Fld
 n:Nat
def Zkz (xs:List Fld)(mx:Nat)(l:List Fld)(f:Fld)(n:Nat):Step:=if Za2 (l++[f])then⟨4,xs,mx,[],0⟩else⟨0,xs,mx,l++[f],n⟩
def Za5 (most:Nat)(xs:List Fld)(mx:Nat)(l:List Fld)(b:List UInt8):Step:=
 if 128<=(b.headD 0).toNat then
  if(Zbi b 7).2.2≠0 then⟨(Zbi b 7).2.2,xs,mx,[],0⟩
  else if(Zbi b 7).1 < 1∨12+xs.length < (Zbi b 7).1 then⟨5,xs,mx,[],0⟩
  else Zkz xs mx l ((Zb9 xs).getD ((Zbi b 7).1-1) ([],[])) (Zbi b 7).2.1
 else if 64<=(b.headD 0).toNat then
  if(Zj6 xs b 6).2.2≠0 then⟨(Zj6 xs b 6).2.2,xs,mx,[],0⟩else Zkz (Zrs mx xs (Zj6 xs b 6).1) mx l (Zj6 xs b 6).1 (Zj6 xs b 6).2.1
 else if 32<=(b.headD 0).toNat then
  if(Zbi b 5).2.2≠0 then⟨(Zbi b 5).2.2,xs,mx,[],0⟩
  else if most < (Zbi b 5).1 then⟨1,xs,mx,[],0⟩
  else if 0 < l.length then⟨6,xs,mx,[],0⟩
  else⟨0,shr (Zbi b 5).1 xs,(Zbi b 5).1,l,(Zbi b 5).2.1⟩
 else if(Zj6 xs b 4).2.2≠0 then⟨(Zj6 xs b 4).2.2,xs,mx,[],0⟩else Zkz xs mx l (Zj6 xs b 4).1 (Zj6 xs b 4).2.1
def heard (most:Nat)(xs:List Fld)(mx:Nat)(l:List Fld)(b:List UInt8):Step:=
 if b=[]then⟨0,xs,mx,l,0⟩
 else if(Za5 most xs mx l b).e≠0 then Za5 most xs mx l b
 else if _hn:(Za5 most xs mx l b).n=0∨b.length < (Za5 most xs mx l b).n then⟨0,xs,mx,l,0⟩
 else heard most (Za5 most xs mx l b).xs (Za5 most xs mx l b).mx (Za5 most xs mx l b).l (b.drop (Za5 most xs mx l b).n)
termination_by b.length
decreasing_by
 rw[List.length_drop]
 omega
theorem Zp2 {xs:List Fld}{b:List UInt8}{t:Int}(h:(Zj6 xs b t).2.2=0):1<=(Zj6 xs b t).2.1/\(Zj6 xs b t).2.1<=b.length:=by
 unfold Zj6 at h⊢
 by_cases h1:(Zbi b t).2.2≠0
 ·rw[if_pos h1]at h
  exact absurd h h1
 have hu:=Zen (Decidable.not_not.1 h1)
 rw[if_neg h1]at h⊢
 by_cases h2:12+xs.length < (Zbi b t).1
 ·rw[if_pos h2]at h;simp at h
 rw[if_neg h2]at h⊢
 by_cases h3:(Zbv (b.drop (Zbi b t).2.1)).2.2≠0
 ·rw[if_pos h3,if_pos h3]at h
  split at h <;> exact absurd h h3
 have hu2:=Zfa (Decidable.not_not.1 h3)
 rw[List.length_drop]at hu2
 rw[if_neg h3,if_neg h3]at h⊢
 by_cases h4:0 < (Zbi b t).1
 ·rw[if_pos h4]
  simp only
  omega
 rw[if_neg h4]at h⊢
 by_cases h5:(Zbv (b.drop ((Zbi b t).2.1+(Zbv (b.drop (Zbi b t).2.1)).2.1))).2.2≠0
 ·rw[if_pos h5]at h
  exact absurd h h5
 have hu3:=Zfa (Decidable.not_not.1 h5)
 rw[List.length_drop]at hu3
 rw[if_neg h5]
 simp only
 omega
theorem Zr4 (xs:List Fld)(mx:Nat)(l:List Fld)(f:Fld)(n:Nat)(h:(Zkz xs mx l f n).e=0):(Zkz xs mx l f n).n=n:=by
 unfold Zkz at h⊢
 split at h
 ·simp at h
 ·rename_i h1
  rw[if_neg h1]
theorem Zk7 {most:Nat}{xs:List Fld}{mx:Nat}{l:List Fld}{b:List UInt8}(h:(Za5 most xs mx l b).e=0):1<=(Za5 most xs mx l b).n/\(Za5 most xs mx l b).n<=b.length:=by
 unfold Za5 at h⊢
 by_cases c1:128<=(b.headD 0).toNat
 ·rw[if_pos c1]at h⊢
  by_cases h1:(Zbi b 7).2.2≠0
  ·rw[if_pos h1]at h;exact absurd h h1
  have hu:=Zen (Decidable.not_not.1 h1)
  rw[if_neg h1]at h⊢
  by_cases h2:(Zbi b 7).1 < 1∨12+xs.length < (Zbi b 7).1
  ·rw[if_pos h2]at h;simp at h
  rw[if_neg h2]at h⊢
  rw[Zr4 _ _ _ _ _ h]
  omega
 rw[if_neg c1]at h⊢
 by_cases c2:64<=(b.headD 0).toNat
 ·rw[if_pos c2]at h⊢
  by_cases h1:(Zj6 xs b 6).2.2≠0
  ·rw[if_pos h1]at h;exact absurd h h1
  rw[if_neg h1]at h⊢
  rw[Zr4 _ _ _ _ _ h]
  exact Zp2 (Decidable.not_not.1 h1)
 rw[if_neg c2]at h⊢
 by_cases c3:32<=(b.headD 0).toNat
 ·rw[if_pos c3]at h⊢
  by_cases h1:(Zbi b 5).2.2≠0
  ·rw[if_pos h1]at h;exact absurd h h1
  have hu:=Zen (Decidable.not_not.1 h1)
  rw[if_neg h1]at h⊢
  by_cases h2:most < (Zbi b 5).1
  ·rw[if_pos h2]at h;simp at h
  rw[if_neg h2]at h⊢
  by_cases h3:0 < l.length
  ·rw[if_pos h3]at h;simp at h
  rw[if_neg h3]
  exact⟨hu.1,hu.2.1⟩
 rw[if_neg c3]at h⊢
 by_cases h1:(Zj6 xs b 4).2.2≠0
 ·rw[if_pos h1]at h;exact absurd h h1
 rw[if_neg h1]at h⊢
 rw[Zr4 _ _ _ _ _ h]
 exact Zp2 (Decidable.not_not.1 h1)
theorem Zqa (most:Nat)(xs:List Fld)(mx:Nat)(l:List Fld):heard most xs mx l []=⟨0,xs,mx,l,0⟩:=by rw[heard,if_pos rfl]
theorem Zsl {most:Nat}{xs:List Fld}{mx:Nat}{l:List Fld}{b:List UInt8}(hb:b≠[])(h:(Za5 most xs mx l b).e≠0):heard most xs mx l b=Za5 most xs mx l b:=by
 rw[heard,if_neg hb,if_pos h]
theorem Zm0 {most:Nat}{xs:List Fld}{mx:Nat}{l:List Fld}{b:List UInt8}(hb:b≠[])(h:(Za5 most xs mx l b).e=0):
  heard most xs mx l b=heard most (Za5 most xs mx l b).xs (Za5 most xs mx l b).mx (Za5 most xs mx l b).l (b.drop (Za5 most xs mx l b).n):=by
 have hu:=Zk7 h
 rw[heard,if_neg hb,if_neg (by omega),dif_neg (by omega)]
end
section
open Go.RowKit
theorem Zxj (x:Int)(h: -9223372036854775808<=x)(h2:x<=9223372036854775807):wrap64 x=x:=by
 unfold wrap64
 omega
theorem Ze4 (t:Nat)(h:t<=8):wrap64 ((2:Int) ^ t)=((2 ^ t:Nat):Int):=by
 have e:((2:Int) ^ t)=((2 ^ t:Nat):Int):=by simp
 rw[e]
 have h2:2 ^ t<=2 ^ 8:=Nat.pow_le_pow_right (by omega) h
 generalize 2 ^ t=p at*
 exact Zxj _ (by omega) (by omega)
theorem wget_one (r:List UInt8)(c0:UInt8)(t:Nat)(ht:1<=t)(ht8:t<=8)(A:Option Addr)(n c:Nat)(hn:n=r.length+1)(B:Nat)(w:World)(hr:Zab w B 1 A (r.length+1) (bs (c0::r)))
  (hlt:c0.toNat % 2 ^ t < 2 ^ t-1):
  CA 149 #[.slice A n c,.int .i64 t] w fun e w'=>e=.returned (.tuple #[.int .i64 (c0.toNat % 2 ^ t:Nat),.int .i64 1,.nilIface])/\w=w':=by
 subst hn
 obtain⟨b,off,rfl,_,hc⟩:=Zbm (l:=c0::r) hr (k:=0) (by simp)
 have h0:w.cell? ⟨b,off,none⟩=some (.int .u8 (c0.toNat:Int)):=hc
 have hb:c0.toNat < 256:=c0.toNat_lt
 have hp:=Zcn ht ht8
 have hm:=Zg2 c0.toNat t (by omega) (by omega)
 have hs:=Ze4 t ht8
 clear hc hr
 generalize c0.toNat % 2 ^ t=x at*
 generalize c0.toNat=y at*
 generalize 2 ^ t=p at*
 have hlt':(x:Int) < (p:Int)-1:=by omega
 clear hlt
 go_enter func149,ntmps149
 go_wp2
 all_goals go_ret3
 all_goals exact⟨rfl,rfl⟩
theorem Zxn (r:List UInt8)(c0:UInt8)(t:Nat)(ht:1<=t)(ht8:t<=8)(A:Option Addr)(n c:Nat)(hn:n=r.length+1)(hcap:r.length+1<=c)(hm:r.length<=140737488355328)(B:Nat)(w:World)(hr:Zab w B 1 A (r.length+1) (bs (c0::r)))
  (hlt:¬c0.toNat % 2 ^ t < 2 ^ t-1) (N U E:Nat) (hR:Zbt 0 (c0.toNat % 2 ^ t) r=(N,U,E)):
  CA 149 #[.slice A n c,.int .i64 t] w fun e w'=>e=.returned (.tuple #[.int .i64 (N:Int),.int .i64 (U:Int),Zjq E])/\w=w':=by
 subst hn
 obtain⟨b,off,rfl,hbB,hall⟩:=hr.form (by omega)
 have h0:w.cell? ⟨b,off,none⟩=some (.int .u8 (c0.toNat:Int)):=hall 0 _ rfl
 have HC:Hid (∀k (hk:k < r.length),w.cell? ⟨b,off+1+k,none⟩=some (.int .u8 (r[k].toNat:Int))):=by
  intro k hk
  have:=hall (k+1) (.int .u8 (r[k].toNat:Int)) (by simp[bs,hk])
  rwa [Nat.add_assoc,Nat.add_comm 1 k]
 have hb:c0.toNat < 256:=c0.toNat_lt
 have hp:=Zcn ht ht8
 have HMK:=Hd (Zg2 c0.toNat t (by omega) (by omega))
 have HS:=Hd (Ze4 t ht8)
 have hx8:=Nat.mod_lt c0.toNat (show 0 < 2 ^ t by omega)
 have HR:=Hd hR
 have H0:=Hd h0
 clear hall hr hR hbB h0
 generalize c0.toNat % 2 ^ t=x0 at*
 generalize c0.toNat=y0 at*
 generalize 2 ^ t=p at*
 have hd:decide ((x0:Int) < (p:Int)-1)=false:=by simp;omega
 have ht1:decide ((t:Int) < 1)=false:=by simp;omega
 have ht9:decide ((8:Int) < (t:Int))=false:=by simp;omega
 have hx0:x0<=255:=by omega
 clear hlt
 by_cases hone:r.length=0
 ·have hr0:r=[]:=List.eq_nil_of_length_eq_zero hone
  subst hr0
  have hO:=HR.out
  simp only[Zbt,Prod.mk.injEq]at hO
  obtain⟨rfl,rfl,rfl⟩:=hO
  clear HR HC hone
  simp only[List.length_nil,Nat.zero_add]at*
  have h0:=H0.out
  have hmk:=HMK.out
  have hs:=HS.out
  go_enter func149,ntmps149
  go_wp2
  all_goals
   refine wp_loop_rounds 1 ?_
   rw[rounds_succ]
   go_wp2
   go_ret3
   exact⟨rfl,rfl⟩
 have hc2:2<=c:=by omega
 have hr1:1<=r.length:=by omega
 clear hone
 have h0:=H0.out
 have hmk:=HMK.out
 have hs:=HS.out
 go_enter func149,ntmps149
 go_wp2
 clear hmk hs h0 H0 HMK HS
 go_loop [4,8,9,37] (fun n _ _ i=>∃k x:Nat,k<=4/\k<=r.length/\i=.int .i64 k/\n=.int .i64 x/\x<=2147483647/\Hid (Zbt k x (r.drop k)=(N,U,E))) (fun _ _ _ i=>r.length-(intOf i).toNat)
 case atStart=>exact⟨0,x0,by omega,by omega,rfl,rfl,by omega,HR⟩
 case round=>
  obtain⟨k,x,hk4,hk,rfl,rfl,hx,HX⟩:=hrel
  clear HR
  by_cases hlt:k < r.length
  ·have hcl:=HC.out k hlt
   have hyb:=r[k].toNat_lt
   have hdrop:=List.drop_eq_getElem_cons hlt
   have hym:=Nat.mod_lt r[k].toNat (show 0 < 128 by omega)
   have hpw:=Zy4 hk4
   have hz:r[k].toNat % 128*128 ^ k<=127*268435456:=Nat.mul_le_mul (by omega) hpw.2
   have hOO:=HX.out
   rw[hdrop]at hOO
   have HO:=Hd hOO
   have HM:=Hd (Zh6 r[k].toNat (by omega))
   clear hOO hdrop HC HX
   have O1:=Hd (@Zjp k x r[k] (r.drop (k+1)))
   have O2:=Hd (@Zjo k x r[k] (r.drop (k+1)))
   have O3:=Hd (@Zgl k x r[k] (r.drop (k+1)))
   have O4:=Hd (@Zgk k x r[k] (r.drop (k+1)))
   generalize Zbt k x (r[k]::r.drop (k+1))=G at*
   generalize hyv:r[k].toNat % 128=y at*
   have HYV:=Hd hyv
   clear hyv
   generalize r[k].toNat=v at*
   clear hpw hz
   rcases(by omega:k=0∨k=1∨k=2∨k=3∨k=4)with rfl | rfl | rfl | rfl | rfl
   ·simp only[Nat.reducePow,Nat.mul_one,Nat.reduceAdd,Nat.pow_zero]at*
    have hmask:=HM.out
    clear HM
    by_cases c1:2147483647 < x+y
    ·have e:=(O1.out (.inl c1)).symm.trans HO.out
     simp only[Prod.mk.injEq]at e
     obtain⟨rfl,rfl,rfl⟩:=e
     have c1':(2147483647:Int) < (x:Int)+(y:Int):=by omega
     clear O1 O2 O3 O4 HO
     go_wp2
     go_ret3
     exact⟨rfl,rfl⟩
    have c1':¬(2147483647:Int) < (x:Int)+(y:Int):=by omega
    have hno:¬(2147483647 < x+y∨((0:Nat)=4/\128<=v)):=by omega
    by_cases c5:v < 128
    ·have e:=(O3.out hno (by omega) c5).symm.trans HO.out
     simp only[Prod.mk.injEq]at e
     obtain⟨rfl,rfl,rfl⟩:=e
     clear O1 O2 O3 O4 HO hno
     go_wp2
     go_ret3
     exact⟨by simp[Zjq],rfl⟩
    have e:=(O4.out hno (by omega) c5).symm.trans HO.out
    have HE:=Hd e
    clear O1 O2 O3 O4 HO hno e
    go_wp2
    go_round
    case rel=>exact⟨1,x+y,by omega,by omega,by go_num,by go_num,by omega,HE.out⟩
    case measure=>simp[intOf];omega
   ·simp only[Nat.reducePow,Nat.mul_one,Nat.reduceAdd,Nat.pow_zero]at*
    have hmask:=HM.out
    clear HM
    by_cases c1:2147483647 < x+y*128
    ·have e:=(O1.out (.inl c1)).symm.trans HO.out
     simp only[Prod.mk.injEq]at e
     obtain⟨rfl,rfl,rfl⟩:=e
     have c1':(2147483647:Int) < (x:Int)+(y:Int)*128:=by omega
     clear O1 O2 O3 O4 HO
     go_wp2
     go_ret3
     exact⟨rfl,rfl⟩
    have c1':¬(2147483647:Int) < (x:Int)+(y:Int)*128:=by omega
    have hno:¬(2147483647 < x+y*128∨((1:Nat)=4/\128<=v)):=by omega
    by_cases c4:v=0
    ·have e:=(O2.out hno ⟨by omega,c4⟩).symm.trans HO.out
     simp only[Prod.mk.injEq]at e
     obtain⟨rfl,rfl,rfl⟩:=e
     subst c4
     have hy0:y=0:=by have:=HYV.out;omega
     subst hy0
     have hx':decide ((2147483647:Int) < (x:Int))=false:=by simp;omega
     have hm0:bits .and .u8 (0:Int) 127=0:=Zh6 0 (by decide)
     clear O1 O2 O3 O4 HO hno c1 c1' HYV hmask
     go_wp2
     go_ret3
     exact⟨rfl,rfl⟩
    have c4':((v:Int)==0)=false:=by simp;omega
    by_cases c5:v < 128
    ·have e:=(O3.out hno (by omega) c5).symm.trans HO.out
     simp only[Prod.mk.injEq]at e
     obtain⟨rfl,rfl,rfl⟩:=e
     clear O1 O2 O3 O4 HO hno
     go_wp2
     go_ret3
     exact⟨by simp[Zjq],rfl⟩
    have e:=(O4.out hno (by omega) c5).symm.trans HO.out
    have HE:=Hd e
    clear O1 O2 O3 O4 HO hno e
    go_wp2
    go_round
    case rel=>exact⟨2,x+y*128,by omega,by omega,by go_num,by go_num,by omega,HE.out⟩
    case measure=>simp[intOf];omega
   ·simp only[Nat.reducePow,Nat.mul_one,Nat.reduceAdd,Nat.pow_zero]at*
    have hmask:=HM.out
    clear HM
    by_cases c1:2147483647 < x+y*16384
    ·have e:=(O1.out (.inl c1)).symm.trans HO.out
     simp only[Prod.mk.injEq]at e
     obtain⟨rfl,rfl,rfl⟩:=e
     have c1':(2147483647:Int) < (x:Int)+(y:Int)*16384:=by omega
     clear O1 O2 O3 O4 HO
     go_wp2
     go_ret3
     exact⟨rfl,rfl⟩
    have c1':¬(2147483647:Int) < (x:Int)+(y:Int)*16384:=by omega
    have hno:¬(2147483647 < x+y*16384∨((2:Nat)=4/\128<=v)):=by omega
    by_cases c4:v=0
    ·have e:=(O2.out hno ⟨by omega,c4⟩).symm.trans HO.out
     simp only[Prod.mk.injEq]at e
     obtain⟨rfl,rfl,rfl⟩:=e
     subst c4
     have hy0:y=0:=by have:=HYV.out;omega
     subst hy0
     have hx':decide ((2147483647:Int) < (x:Int))=false:=by simp;omega
     have hm0:bits .and .u8 (0:Int) 127=0:=Zh6 0 (by decide)
     clear O1 O2 O3 O4 HO hno c1 c1' HYV hmask
     go_wp2
     go_ret3
     exact⟨rfl,rfl⟩
    have c4':((v:Int)==0)=false:=by simp;omega
    by_cases c5:v < 128
    ·have e:=(O3.out hno (by omega) c5).symm.trans HO.out
     simp only[Prod.mk.injEq]at e
     obtain⟨rfl,rfl,rfl⟩:=e
     clear O1 O2 O3 O4 HO hno
     go_wp2
     go_ret3
     exact⟨by simp[Zjq],rfl⟩
    have e:=(O4.out hno (by omega) c5).symm.trans HO.out
    have HE:=Hd e
    clear O1 O2 O3 O4 HO hno e
    go_wp2
    go_round
    case rel=>exact⟨3,x+y*16384,by omega,by omega,by go_num,by go_num,by omega,HE.out⟩
    case measure=>simp[intOf];omega
   ·simp only[Nat.reducePow,Nat.mul_one,Nat.reduceAdd,Nat.pow_zero]at*
    have hmask:=HM.out
    clear HM
    by_cases c1:2147483647 < x+y*2097152
    ·have e:=(O1.out (.inl c1)).symm.trans HO.out
     simp only[Prod.mk.injEq]at e
     obtain⟨rfl,rfl,rfl⟩:=e
     have c1':(2147483647:Int) < (x:Int)+(y:Int)*2097152:=by omega
     clear O1 O2 O3 O4 HO
     go_wp2
     go_ret3
     exact⟨rfl,rfl⟩
    have c1':¬(2147483647:Int) < (x:Int)+(y:Int)*2097152:=by omega
    have hno:¬(2147483647 < x+y*2097152∨((3:Nat)=4/\128<=v)):=by omega
    by_cases c4:v=0
    ·have e:=(O2.out hno ⟨by omega,c4⟩).symm.trans HO.out
     simp only[Prod.mk.injEq]at e
     obtain⟨rfl,rfl,rfl⟩:=e
     subst c4
     have hy0:y=0:=by have:=HYV.out;omega
     subst hy0
     have hx':decide ((2147483647:Int) < (x:Int))=false:=by simp;omega
     have hm0:bits .and .u8 (0:Int) 127=0:=Zh6 0 (by decide)
     clear O1 O2 O3 O4 HO hno c1 c1' HYV hmask
     go_wp2
     go_ret3
     exact⟨rfl,rfl⟩
    have c4':((v:Int)==0)=false:=by simp;omega
    by_cases c5:v < 128
    ·have e:=(O3.out hno (by omega) c5).symm.trans HO.out
     simp only[Prod.mk.injEq]at e
     obtain⟨rfl,rfl,rfl⟩:=e
     clear O1 O2 O3 O4 HO hno
     go_wp2
     go_ret3
     exact⟨by simp[Zjq],rfl⟩
    have e:=(O4.out hno (by omega) c5).symm.trans HO.out
    have HE:=Hd e
    clear O1 O2 O3 O4 HO hno e
    go_wp2
    go_round
    case rel=>exact⟨4,x+y*2097152,by omega,by omega,by go_num,by go_num,by omega,HE.out⟩
    case measure=>simp[intOf];omega
   ·simp only[Nat.reducePow,Nat.mul_one,Nat.reduceAdd,Nat.pow_zero]at*
    have hmask:=HM.out
    clear HM
    by_cases c1:2147483647 < x+y*268435456
    ·have e:=(O1.out (.inl c1)).symm.trans HO.out
     simp only[Prod.mk.injEq]at e
     obtain⟨rfl,rfl,rfl⟩:=e
     have c1':(2147483647:Int) < (x:Int)+(y:Int)*268435456:=by omega
     clear O1 O2 O3 O4 HO
     go_wp2
     go_ret3
     exact⟨rfl,rfl⟩
    have c1':¬(2147483647:Int) < (x:Int)+(y:Int)*268435456:=by omega
    by_cases c2:128<=v
    ·have e:=(O1.out (.inr ⟨trivial,c2⟩)).symm.trans HO.out
     simp only[Prod.mk.injEq]at e
     obtain⟨rfl,rfl,rfl⟩:=e
     clear O1 O2 O3 O4 HO
     go_wp2
     go_ret3
     exact⟨rfl,rfl⟩
    have hno:¬(2147483647 < x+y*268435456∨(True/\128<=v)):=by omega
    by_cases c4:v=0
    ·have e:=(O2.out hno ⟨by omega,c4⟩).symm.trans HO.out
     simp only[Prod.mk.injEq]at e
     obtain⟨rfl,rfl,rfl⟩:=e
     subst c4
     have hy0:y=0:=by have:=HYV.out;omega
     subst hy0
     have hx':decide ((2147483647:Int) < (x:Int))=false:=by simp;omega
     have hm0:bits .and .u8 (0:Int) 127=0:=Zh6 0 (by decide)
     clear O1 O2 O3 O4 HO hno c1 c1' HYV hmask
     go_wp2
     go_ret3
     exact⟨rfl,rfl⟩
    have c4':((v:Int)==0)=false:=by simp;omega
    by_cases c5:v < 128
    ·have e:=(O3.out hno (by omega) c5).symm.trans HO.out
     simp only[Prod.mk.injEq]at e
     obtain⟨rfl,rfl,rfl⟩:=e
     clear O1 O2 O3 O4 HO hno
     go_wp2
     go_ret3
     exact⟨by simp[Zjq],rfl⟩
    omega
  ·have hkr:k=r.length:=by omega
   subst hkr
   have e:=HX.out
   rw[List.drop_length]at e
   simp only[Zbt,Prod.mk.injEq]at e
   obtain⟨rfl,rfl,rfl⟩:=e
   clear HX HC
   go_wp2
   go_ret3
   exact⟨rfl,rfl⟩
theorem Zc0 (l:List UInt8)(s:Int)(A:Option Addr)(n c:Nat)(hn:n=l.length)(hcap:l.length<=c)(hm:l.length<=140737488355328)(B:Nat)(w:World)(hr:Zab w B 1 A l.length (bs l)):
  CA 149 #[.slice A n c,.int .i64 s] w fun e w'=>e=.returned (.tuple #[.int .i64 (Zbi l s).1,.int .i64 (Zbi l s).2.1,Zjq (Zbi l s).2.2])/\w=w':=by
 subst hn
 by_cases h1:s < 1∨8 < s
 ·have e1:Zbi l s=(0,0,1):=by simp[Zbi,h1]
  rw[e1]
  clear e1 hr
  rcases h1 with h1 | h1
  all_goals
   go_enter func149,ntmps149
   go_wp2
   go_ret3
   exact⟨rfl,rfl⟩
 obtain⟨t,rfl⟩:=Int.eq_ofNat_of_zero_le (show 0<=s by omega)
 match l,hcap,hm,hr with
 | [],hcap,hm,hr=>
  have e1:Zbi [] (t:Int)=(0,0,8):=by simp[Zbi,h1]
  rw[e1]
  simp only[List.length_nil]
  clear e1 hr
  go_enter func149,ntmps149
  go_wp2
  go_ret3
  exact⟨rfl,rfl⟩
 | c0::r,hcap,hm,hr=>
  simp only[List.length_cons]at hcap hm hr
  by_cases hlt:c0.toNat % 2 ^ t < 2 ^ t-1
  ·have e1:Zbi (c0::r) (t:Int)=(c0.toNat % 2 ^ t,1,0):=by simp[Zbi,h1,hlt]
   rw[e1]
   exact wget_one r c0 t (by omega) (by omega) A _ c rfl B w hr hlt
  ·have e1:Zbi (c0::r) (t:Int)=Zbt 0 (c0.toNat % 2 ^ t) r:=by simp[Zbi,h1,hlt]
   rw[e1]
   exact Zxn r c0 t (by omega) (by omega) A _ c rfl hcap (by omega) B w hr hlt _ _ _ rfl
theorem putN_pos {n t first:Nat}(h:¬n < 2 ^ t-1):Zc9 n t first=UInt8.ofNat (first+(2 ^ t-1))::Zm6 (n-(2 ^ t-1)):=by rw[Zc9,if_neg h]
theorem putN_one {n t first:Nat}(h:n < 2 ^ t-1):Zc9 n t first=[UInt8.ofNat (first+n)]:=by rw[Zc9,if_pos h]
theorem Zis (c:UInt8)(z:Int)(h:(c.toNat:Int)=z):bs [c]=[.int .u8 z]:=by simp[bs,h]
theorem wput_one (n f t:Nat)(ht:1<=t)(ht8:t<=8)(hf:f<=255)(hf0:f % 2 ^ t=0)(hlt:n < 2 ^ t-1)(w:World):
  CA 87 #[.int .i64 n,.int .i64 t,.int .i64 f] w fun e w'=>∃v,e=.returned (.tuple #[v,.nilIface])/\w'.ownsRow w.heap.size 5 1 v (Zc9 n t f).length (bs (Zc9 n t f))/\Below w.heap.size w w':=by
 have hp:=Zcn ht ht8
 rw[putN_one hlt]
 have HS:=Hd (Ze4 t ht8)
 have HMK:=Hd (Zg2 f t (by omega) (by omega))
 have hq:f=f / 2 ^ t*2 ^ t:=by
  have:=Nat.div_add_mod f (2 ^ t)
  rw[hf0,Nat.mul_comm]at this
  omega
 have hsum:f+n<=255:=by
  have h1:f / 2 ^ t*2 ^ t+2 ^ t<=256:=by
   rcases(by omega:t=1∨t=2∨t=3∨t=4∨t=5∨t=6∨t=7∨t=8)with rfl | rfl | rfl | rfl | rfl | rfl | rfl | rfl <;> simp only[Nat.reducePow]at* <;> omega
  omega
 have HOR:=Hd (Zg1 (f / 2 ^ t) n t (by omega) (by omega) (by omega))
 rw[hf0]at HMK
 rw[<-hq]at HOR
 clear hq hf0
 generalize 2 ^ t=p at*
 have h1:(n:Int) < (p:Int)-1:=by omega
 have hs:=HS.out
 have hmk:=HMK.out
 have hor:=HOR.out
 clear HS HMK HOR hlt
 go_enter func87,ntmps87
 go_wp2
 go_ret2
 refine⟨_,rfl,Zhv w _ _ _ 1 ?_ (by simp[bs]) (by decide),(Below.refl _ _).alloc (Nat.le_refl _) _⟩
 rw[Zis (UInt8.ofNat (f+n)) ((f:Int)+n) (by simp only[UInt8.toNat_ofNat'];omega)]
theorem Zxk (n f t:Nat)(ht:1<=t)(ht8:t<=8)(hn:n<=2147483647)(hf:f<=255)(hf0:f % 2 ^ t=0)(hlt:¬n < 2 ^ t-1)(w:World):
  CA 87 #[.int .i64 n,.int .i64 t,.int .i64 f] w fun e w'=>∃v,e=.returned (.tuple #[v,.nilIface])/\w'.ownsRow w.heap.size 5 1 v (Zc9 n t f).length (bs (Zc9 n t f))/\Below w.heap.size w w':=by
 have hp:=Zcn ht ht8
 have HL:=Hd (putN_pos (first:=f) hlt)
 generalize Zc9 n t f=L at*
 have HS:=Hd (Ze4 t ht8)
 have HMK:=Hd (Zg2 f t (by omega) (by omega))
 have hq:f=f / 2 ^ t*2 ^ t:=by
  have:=Nat.div_add_mod f (2 ^ t)
  rw[hf0,Nat.mul_comm]at this
  omega
 have hsum:f+(2 ^ t-1)<=255:=by
  have h1:f / 2 ^ t*2 ^ t+2 ^ t<=256:=by
   rcases(by omega:t=1∨t=2∨t=3∨t=4∨t=5∨t=6∨t=7∨t=8)with rfl | rfl | rfl | rfl | rfl | rfl | rfl | rfl <;> simp only[Nat.reducePow]at* <;> omega
  omega
 have hor0:=Zg1 (f / 2 ^ t) (2 ^ t-1) t (by omega) (by omega) (by omega)
 rw[<-hq,show((2 ^ t-1:Nat):Int)=((2 ^ t:Nat):Int)-1 by omega]at hor0
 have HOR:=Hd hor0
 rw[hf0]at HMK
 clear hq hf0 hor0
 generalize 2 ^ t=p at*
 have h1:decide ((n:Int) < (p:Int)-1)=false:=by simp;omega
 have ht1:decide ((t:Int) < 1)=false:=by simp;omega
 have ht9:decide ((8:Int) < (t:Int))=false:=by simp;omega
 have hn9:decide ((2147483647:Int) < (n:Int))=false:=by simp;omega
 have hf9:decide ((255:Int) < (f:Int))=false:=by simp;omega
 have hs:=HS.out
 have hmk:=HMK.out
 have hor:=HOR.out
 clear HS HMK HOR
 go_enter func87,ntmps87
 go_wp2
 clear hs hmk hor
 go_loopw [0,9] (fun x b wr=>∃(m:Nat) (xs:List UInt8),x=.int .i64 m/\1<=xs.length/\xs.length+m<=2147483648/\wr.ownsRow w.heap.size 5 1 b xs.length (bs xs)/\Below w.heap.size w wr/\Hid (xs++Zm6 m=L)) (fun x _ _=>(intOf x).toNat)
 case atStart=>
  refine⟨n-(p-1),[UInt8.ofNat (f+(p-1))],by go_num,by simp,by simp;omega,?_,(Below.refl _ _).alloc (Nat.le_refl _) _,HL.out.symm⟩
  refine Zhv w _ _ _ 1 ?_ (by simp[bs]) (by decide)
  rw[Zis (UInt8.ofNat (f+(p-1))) ((f:Int)+((p:Int)-1)) (by simp only[UInt8.toNat_ofNat'];omega)]
  first | rfl | (simp;omega)
 case round=>
  obtain⟨m,xs,rfl,hx1,hxm,hown,hb,HX⟩:=hrel
  clear HL
  have hsz:=hb.size
  by_cases hge:m < 128
  ·have hm:(m:Int) % 256=m:=by omega
   have e:=HX.out
   rw[Zgn hge]at e
   have HE:=Hd e
   clear e HX hn9 hf9 ht1 ht9 h1
   go_wp2_with (at_builtin;refine Zdb rfl _ _ rfl w.heap.size _ _ _ rfl hown rfl rfl (by omega) hsz ?_;intro v' w' hown' hb')
   go_ret2
   refine⟨_,rfl,?_,hb.trans hb'⟩
   rw[<-HE.out,Za1,List.length_append]
   rw[Zis (UInt8.ofNat m) (m:Int) (by simp only[UInt8.toNat_ofNat'];omega)]
   exact hown'
  ·have e:=HX.out
   rw[Zio hge]at e
   have HE:=Hd e
   clear e HX
   have hor:=Zvj (m % 256) (by omega)
   rw[show((m % 256:Nat):Int)=(m:Int) % 256 by omega,show m % 256 % 128=m % 128 by omega]at hor
   go_wp2_with (at_builtin;refine Zdb rfl _ _ rfl w.heap.size _ _ _ rfl hown rfl rfl (by omega) hsz ?_;intro v' w' hown' hb')
   go_roundw
   case rel=>
    refine⟨m / 128,xs++[UInt8.ofNat (m % 128+128)],by go_num,by simp,by simp;omega,?_,hb.trans hb',?_⟩
    ·rw[Za1,List.length_append]
     rw[Zis (UInt8.ofNat (m % 128+128)) ((m % 128+128:Nat):Int) (by simp only[UInt8.toNat_ofNat'];omega)]
     exact hown'
    ·show _=_
     rw[List.append_assoc]
     exact HE.out
   case measure=>simp[intOf];omega
theorem wput_bad (n bits first:Int)(hb:¬Zjw n bits first)(w:World):
  CA 87 #[.int .i64 n,.int .i64 bits,.int .i64 first] w fun e w'=>e=.returned (.tuple #[.slice none 0 0,.iface 95 (.int .i64 1)])/\w=w':=by
 by_cases h1:bits < 1
 ·clear hb
  go_enter func87,ntmps87
  go_wp2
  go_ret2
  exact⟨rfl,rfl⟩
 by_cases h8:8 < bits
 ·clear hb
  go_enter func87,ntmps87
  go_wp2
  go_ret2
  exact⟨rfl,rfl⟩
 by_cases h0:n < 0
 ·clear hb
  go_enter func87,ntmps87
  go_wp2
  go_ret2
  exact⟨rfl,rfl⟩
 by_cases hM:2147483647 < n
 ·clear hb
  go_enter func87,ntmps87
  go_wp2
  go_ret2
  exact⟨rfl,rfl⟩
 by_cases hf:first < 0
 ·clear hb
  go_enter func87,ntmps87
  go_wp2
  go_ret2
  exact⟨rfl,rfl⟩
 by_cases hf5:255 < first
 ·clear hb
  go_enter func87,ntmps87
  go_wp2
  go_ret2
  exact⟨rfl,rfl⟩
 have hne:¬first % 2 ^ bits.toNat=0:=fun h=>hb ⟨by omega,by omega,by omega,by omega,by omega,by omega,h⟩
 clear hb
 obtain⟨t,rfl⟩:=Int.eq_ofNat_of_zero_le (show 0<=bits by omega)
 obtain⟨f,rfl⟩:=Int.eq_ofNat_of_zero_le (show 0<=first by omega)
 rw[Int.toNat_natCast]at hne
 have hne2:¬f % 2 ^ t=0:=by
  intro h
  apply hne
  have:=Int.natCast_emod f (2 ^ t)
  rw[h]at this
  simpa using this.symm
 have hp:=Zcn (show 1<=t by omega) (show t<=8 by omega)
 clear hne
 have HS:=Hd (Ze4 t (by omega))
 have HMK:=Hd (Zg2 f t (by omega) (by omega))
 generalize f % 2 ^ t=x at*
 generalize 2 ^ t=p at*
 have hx:((x:Int)==0)=false:=by simp;omega
 have hs:=HS.out
 have hmk:=HMK.out
 clear HS HMK hne2
 go_enter func87,ntmps87
 go_wp2
 go_ret2
 exact⟨rfl,rfl⟩
theorem Zng (n bits first:Int)(w:World):
  CA 87 #[.int .i64 n,.int .i64 bits,.int .i64 first] w fun e w'=>∃v,e=.returned (.tuple #[v,Zjq (putE n bits first)])/\w'.ownsRow w.heap.size 5 1 v (Zd4 n bits first).length (bs (Zd4 n bits first))/\Below w.heap.size w w':=by
 by_cases h:Zjw n bits first
 ·have e1:putE n bits first=0:=by simp[putE,h]
  have e2:Zd4 n bits first=Zc9 n.toNat bits.toNat first.toNat:=by simp[Zd4,h]
  rw[e1,e2]
  obtain⟨h1,h8,h0,hM,hf0,hf5,hmod⟩:=h
  obtain⟨m,rfl⟩:=Int.eq_ofNat_of_zero_le h0
  obtain⟨t,rfl⟩:=Int.eq_ofNat_of_zero_le (show 0<=bits by omega)
  obtain⟨f,rfl⟩:=Int.eq_ofNat_of_zero_le hf0
  simp only[Int.toNat_natCast]at*
  have hmod2:f % 2 ^ t=0:=by
   have h2:=Int.natCast_emod f (2 ^ t)
   have h3:((f:Int) % ((2 ^ t:Nat):Int))=0:=by simpa using hmod
   omega
  by_cases hlt:m < 2 ^ t-1
  ·exact wput_one m f t (by omega) (by omega) (by omega) hmod2 hlt w
  ·exact Zxk m f t (by omega) (by omega) (by omega) (by omega) hmod2 hlt w
 ·have e1:putE n bits first=1:=by simp[putE,h]
  have e2:Zd4 n bits first=[]:=by simp[Zd4,h]
  rw[e1,e2]
  refine(wput_bad n bits first h w).mono ?_
  rintro e w' ⟨he,rfl⟩
  exact⟨_,he,World.ownsRow_nil _ _ _ _,Below.refl _ _⟩
theorem Zjr (l:List UInt8)(hl:l.length<=68719476736)(w:World):
  CA 146 #[.string ⟨l.toArray⟩] w fun e w'=>∃A c,e=.returned (.slice A (enc l).length c)/\Gave w w' (enc l) A c:=by
 refine(Zwy l hl w).mono ?_
 rintro e w' ⟨v,he,hown,hb⟩
 obtain⟨A,c,rfl,hg⟩:=Zdg hown hb
 exact⟨A,c,he,hg⟩
theorem Zx4 {w':World}{v:Value}{B:Nat}{a b:List UInt8}(h:w'.ownsRow B 5 1 v (a.length+b.length) (bs a++bs b)):w'.ownsRow B 5 1 v (a++b).length (bs (a++b)):=by
 rw[List.length_append,Za1]
 exact h
theorem Zzy (l:List UInt8)(w:World)(hlm:l.length<=140737488355328):
  CA 90 #[.string ⟨l.toArray⟩] w fun e w'=>∃v,e=.returned (.tuple #[v,Zjq (Zxg l)])/\w'.ownsRow w.heap.size 5 1 v (Zco l).length (bs (Zco l))/\Below w.heap.size w w':=by
 by_cases h4:400 < l.length
 ·have e1:Zxg l=4:=by simp[Zxg,h4]
  have e2:Zco l=[]:=by simp[Zco,h4]
  rw[e1,e2]
  go_enter func90,ntmps90
  go_wp2
  go_ret2
  exact⟨_,rfl,World.ownsRow_nil _ _ _ _,Below.refl _ _⟩
 ·have e1:Zxg l=0:=by simp[Zxg,h4]
  have e2:Zco l=Zd4 ((Zhf l).length:Nat) 7 (Zju l)++Zhf l:=by simp[Zco,h4]
  have HE:=Hd (txt_putE l (by omega))
  have HT:=Hd e2
  rw[e1,Zal]
  clear e1 e2
  by_cases hle:l.length<=(enc l).length
  ·have e3:Zhf l=l:=by simp[Zhf,hle]
   have e4:Zju l=0:=by simp[Zju,hle]
   rw[e3,e4]at HE HT
   clear e3 e4
   go_enter func90,ntmps90
   go_wp2_with fail
   refine(Zjr l (by omega) w).mono ?_
   rintro e w1 ⟨A1,c1,rfl,hc1,hr1,hb1⟩
   obtain⟨c2,w2,hk,hc2,hr2,hb2,hz2⟩:=Zg8 w1 l
   have hb12:=hb1.trans (hb2.mono hb1.size)
   have HB:=Hd hb12
   have hs12:=hb12.size
   clear hr1 hb1 hb2 hb12
   go_wp2_with fail
   refine(Zng (l.length:Nat) 7 0 w2).mono ?_
   rintro e w3 ⟨v,rfl,hown,hb3⟩
   rw[HE.out,Zal]
   have hr3:=hr2.below hb3
   have hs3:=hb3.size
   have hp6:(Zd4 (l.length:Nat) 7 0).length<=1000:=Zjh _ _ (by omega)
   go_wp2_with (at_builtin;refine Zhr rfl _ _ rfl w2.heap.size _ _ _ rfl hown w2.heap.size _ l.length c2 (bs l) rfl hr3 (Zit l) (by omega) hs3 ?_;intro v4 w4 hown4 hb4)
   go_ret2
   refine⟨_,rfl,?_,HB.out.trans ((hb3.trans hb4).mono hs12)⟩
   rw[HT.out]
   exact Zn7 (Zx4 hown4) hs12
  ·have e3:Zhf l=enc l:=by simp[Zhf,hle]
   have e4:Zju l=128:=by simp[Zju,hle]
   rw[e3,e4]at HE HT
   clear e3 e4
   go_enter func90,ntmps90
   go_wp2_with fail
   refine(Zjr l (by omega) w).mono ?_
   rintro e w1 ⟨A1,c1,rfl,hc1,hr1,hb1⟩
   have HB:=Hd hb1
   have hs1:=hb1.size
   clear hb1
   go_wp2_with fail
   refine(Zng ((enc l).length:Nat) 7 128 w1).mono ?_
   rintro e w3 ⟨v,rfl,hown,hb3⟩
   rw[HE.out,Zal]
   have hr3:=hr1.below hb3
   have hs3:=hb3.size
   have hp6:(Zd4 ((enc l).length:Nat) 7 128).length<=1000:=Zjh _ _ (by omega)
   go_wp2_with (at_builtin;refine Zhr rfl _ _ rfl w1.heap.size _ _ _ rfl hown w1.heap.size _ (enc l).length c1 (bs (enc l)) rfl hr3 (Zit (enc l)) (by omega) hs3 ?_;intro v4 w4 hown4 hb4)
   go_ret2
   refine⟨_,rfl,?_,HB.out.trans ((hb3.trans hb4).mono hs1)⟩
   rw[HT.out]
   exact Zn7 (Zx4 hown4) hs1
section
variable {l:List UInt8} {N U:Nat}
theorem Zyx {E:Nat}(h:Zbi l 7=(N,U,E))(hE:E≠0):Zbv l=([],0,E):=by simp[Zbv,h,hE]
theorem Zvx (h:Zbi l 7=(N,U,0))(h4:400 < N):Zbv l=([],0,4):=by simp[Zbv,h,h4]
theorem Zr0 (h:Zbi l 7=(N,U,0))(h4:¬400 < N)(h5:l.length < U+N):Zbv l=([],0,8):=by simp[Zbv,h,h4,h5]
theorem Zvw (h:Zbi l 7=(N,U,0))(h4:¬400 < N)(h5:¬l.length < U+N)(h6:128<=(l.headD 0).toNat)(hd:Zda ((l.drop U).take N)=none):Zbv l=([],0,2):=by
 simp only[Zbv,h,if_pos h6,hd]
 rw[if_neg (by simp),if_neg h4,if_neg h5]
theorem Zmu {s:List UInt8}(h:Zbi l 7=(N,U,0))(h4:¬400 < N)(h5:¬l.length < U+N)(hd:(if 128<=(l.headD 0).toNat then Zda ((l.drop U).take N)else some ((l.drop U).take N))=some s):
  Zbv l=if 400 < s.length then([],0,4)else if Zco s=l.take (U+N)then(s,U+N,0)else([],0,2):=by
 simp only[Zbv,h,hd]
 rw[if_neg (by simp),if_neg h4,if_neg h5]
end
theorem Zea (l:List UInt8)(w:World)(hlm:l.length<=140737488355328):
  CA 90 #[.string ⟨l.toArray⟩] w fun e w'=>∃A c,e=.returned (.tuple #[.slice A (Zco l).length c,Zjq (Zxg l)])/\Gave w w' (Zco l) A c:=by
 refine(Zzy l w hlm).mono ?_
 rintro e w' ⟨v,he,hown,hb⟩
 obtain⟨A,c,rfl,hg⟩:=Zdg hown hb
 exact⟨A,c,he,hg⟩
theorem Zw3 {l s:List UInt8}(h:Zda l=some s):s.length<=2*l.length:=by
 have h1:=Zw1 l s h
 have h2:=Zw0 s
 rw[h1]at h2
 have h3:∀s:List UInt8,6*s.length<=(Zap s).length:=by
  intro s
  induction s with
  | nil=>simp
  | cons c s ih=>
   rw[Zdv,List.length_append,Zqu,List.length_cons]
   split <;> omega
 have:=h3 s
 omega
theorem Zli (l s:List UInt8)(h:Zda l=some s)(hl:l.length<=1099511627776)(A:Option Addr)(n c:Nat)(hn:n=l.length)(w:World)(hr:Zab w w.heap.size 1 A l.length (bs l)):
  CA 271 #[.slice A n c] w fun e w'=>e=.returned (.tuple #[.string ⟨s.toArray⟩,.nilIface])/\Below w.heap.size w w':=by
 refine(Zm3 l hl A n c hn w hr).mono ?_
 rintro e w' ⟨he,hb⟩
 simpa [decS,decE,h,Zjq]using And.intro he hb
theorem Zw2 (l:List UInt8)(h:Zda l=none)(hl:l.length<=1099511627776)(A:Option Addr)(n c:Nat)(hn:n=l.length)(w:World)(hr:Zab w w.heap.size 1 A l.length (bs l)):
  CA 271 #[.slice A n c] w fun e w'=>e=.returned (.tuple #[.string ⟨#[]⟩,.iface 95 (.int .i64 2)])/\Below w.heap.size w w':=by
 refine(Zm3 l hl A n c hn w hr).mono ?_
 rintro e w' ⟨he,hb⟩
 simpa [decS,decE,h,Zjq]using And.intro he hb
theorem Zp9 (l:List UInt8)(A:Option Addr)(n c:Nat)(hn:n=l.length)(hcap:l.length<=c)(hm:l.length<=140737488355328)(w:World)(hr:Zab w w.heap.size 1 A l.length (bs l)):
  CA 208 #[.slice A n c] w fun e w'=>e=.returned (.tuple #[.string ⟨(Zbv l).1.toArray⟩,.int .i64 ((Zbv l).2.1:Nat),Zjq (Zbv l).2.2])/\Below w.heap.size w w':=by
 subst hn
 obtain⟨N,U,E,hV⟩:∃N U E,Zbi l 7=(N,U,E):=⟨_,_,_,rfl⟩
 by_cases hE:E≠0
 ·rw[Zyx hV hE,Zbe hE]
  have HV:=Hd hV
  have HE:=Hd hE
  clear hV hE
  go_enter func208,ntmps208
  go_wp2_with fail
  refine(Zc0 l 7 A _ c rfl hcap hm _ w hr).mono ?_
  rintro e w' ⟨rfl,rfl⟩
  rw[HV.out,Zbe HE.out]
  go_wp2
  go_ret3
  exact⟨rfl,Below.refl _ _⟩
 have hE0:E=0:=Decidable.not_not.1 hE
 subst hE0
 clear hE
 have hu:=Zen (l:=l) (t:=7) (by rw[hV])
 rw[hV]at hu
 simp only at hu
 obtain⟨hu1,hu2,hu3⟩:=hu
 by_cases h4:400 < N
 ·rw[Zvx hV h4,Zbe (by decide)]
  have HV:=Hd hV
  clear hV
  go_enter func208,ntmps208
  go_wp2_with fail
  refine(Zc0 l 7 A _ c rfl hcap hm _ w hr).mono ?_
  rintro e w' ⟨rfl,rfl⟩
  rw[HV.out,Zal]
  go_wp2
  go_ret3
  exact⟨rfl,Below.refl _ _⟩
 by_cases h5:l.length < U+N
 ·rw[Zr0 hV h4 h5,Zbe (by decide)]
  have HV:=Hd hV
  clear hV
  go_enter func208,ntmps208
  go_wp2_with fail
  refine(Zc0 l 7 A _ c rfl hcap hm _ w hr).mono ?_
  rintro e w' ⟨rfl,rfl⟩
  rw[HV.out,Zal]
  go_wp2
  go_ret3
  exact⟨rfl,Below.refl _ _⟩
 obtain⟨b,off,y0,rfl,hbB,hcell,hhd,hy0⟩:=Zgt hr (by omega)
 have hmid:=Zej (c:=c) hr (at_:=U) (n:=N) (by omega) hcap
 have hlen:((l.drop U).take N).length=N:=by simp;omega
 have htake:=hr.take (k:=U+N) (by omega)
 rw[Zov]at htake
 have hlt:(l.take (U+N)).length=U+N:=by simp;omega
 obtain⟨mid,hmidL⟩:=exl ((l.drop U).take N)
 obtain⟨all,hallL⟩:=exl (l.take (U+N))
 obtain⟨A1,hA1⟩:=exl ((if c=U then some (⟨b,off,none⟩:Addr)else some ⟨b,off+U,none⟩))
 rw[hmidL]at hmid hlen
 rw[hallL]at htake hlt
 rw[hA1]at hmid
 have hk:=fun(W:World) (hW:Below w.heap.size w W)=>Zb2 (w:=W) (A:=A1) (l:=mid) (by rw[hlen];exact hmid.below hW)
 rw[hlen]at hk
 have HHmid:=Hd hmidL
 have HHall:=Hd hallL
 have HA:=Hd hA1
 have hhi:U+N<=l.length:=by omega
 by_cases h128:128<=y0
 ·cases hD:Zda mid with
  | none=>
   rw[Zvw hV h4 h5 (by rw[hhd];exact h128) (by rw[hmidL];exact hD),Zbe (by decide)]
   have HV:=Hd hV
   have hk0:=hk w (Below.refl _ _) (c-U)
   have HD:=Hd hD
   have hml:=Nat.le_of_eq hlen
   have HL:=Hd hlen
   clear hV hD hmidL hallL hk hhd hlen hlt htake
   go_enter func208,ntmps208
   go_wp2_with fail
   refine(Zc0 l 7 _ _ c rfl hcap hm _ w hr).mono ?_
   rintro e w' ⟨rfl,rfl⟩
   rw[HV.out,Zal]
   go_wp2_with fail
   refine(Zw2 mid HD.out (by omega) A1 _ _ (by rw[HL.out]) w (by rw[HL.out];exact hmid)).mono ?_
   rintro e w' ⟨rfl,hb1⟩
   go_wp2
   go_ret3
   exact⟨rfl,hb1⟩
  | some s=>
   have hT:=Zmu (s:=s) hV h4 h5 (by rw[hhd,if_pos h128,hmidL];exact hD)
   rw[hallL]at hT
   rw[hT]
   have HV:=Hd hV
   have hk0:=hk w (Below.refl _ _) (c-U)
   have HD:=Hd hD
   have HM:=Hd hlen
   have hml:=Nat.le_of_eq hlen
   have HL:=Hd hlt
   by_cases hs4:400 < s.length
   ·rw[if_pos hs4,Zbe (by decide)]
    have hT0:Zxg s=4:=by rw[Zxg,if_pos hs4]
    have HT0:=Hd hT0
    have hsl:=Zw3 HD.out
    clear hV hmidL hallL hk hhd hlt hT hT0 hlen hD
    go_enter func208,ntmps208
    go_wp2_with fail
    refine(Zc0 l 7 _ _ c rfl hcap hm _ w hr).mono ?_
    rintro e w' ⟨rfl,rfl⟩
    rw[HV.out,Zal]
    go_wp2_with fail
    refine(Zli mid s HD.out (by omega) A1 _ _ (by rw[HM.out]) w (by rw[HM.out];exact hmid)).mono ?_
    rintro e w1 ⟨rfl,hb1⟩
    go_wp2_with fail
    refine(Zea s w1 (by omega)).mono ?_
    rintro e w' ⟨A2,c2,rfl,hc2,hr2,hb2⟩
    rw[HT0.out,Zbe (by decide)]
    go_wp2
    go_ret3
    exact⟨rfl,hb1.trans (hb2.mono hb1.size)⟩
   rw[if_neg hs4]
   have hT0:Zxg s=0:=by rw[Zxg,if_neg hs4]
   have HT0:=Hd hT0
   by_cases hx:Zco s=all
   ·rw[if_pos hx]
    subst hx
    clear hV hmidL hallL hk hhd hlt hT hT0 hlen hD
    go_enter func208,ntmps208
    go_wp2_with fail
    refine(Zc0 l 7 _ _ c rfl hcap hm _ w hr).mono ?_
    rintro e w' ⟨rfl,rfl⟩
    rw[HV.out,Zal]
    go_wp2_with fail
    refine(Zli mid s HD.out (by omega) A1 _ _ (by rw[HM.out]) w (by rw[HM.out];exact hmid)).mono ?_
    rintro e w1 ⟨rfl,hb1⟩
    go_wp2_with fail
    refine(Zea s w1 (by omega)).mono ?_
    rintro e w' ⟨A2,c2,rfl,hc2,hr2,hb2⟩
    rw[HT0.out,Zal]
    have k2:=fun m=>Zb2 (w:=w'.drewN m) (hr2.drewN m) c2
    have k3:=fun m=>Zb2 (w:=w'.drewN m) (A:=some ⟨b,off,none⟩) (l:=Zco s) (by rw[HL.out];exact((htake.below hb1).below (hb2.mono hb1.size)).drewN m) c
    rw[HL.out]at k2 k3⊢
    go_wp2_with fail
    go_quiet (fail)
    go_wp2
    go_ret3
    exact⟨rfl,Zhb (hb1.trans (hb2.mono hb1.size)) _⟩
   ·rw[if_neg hx]
    have hx2:(Zco s==all)=false:=by simpa using hx
    clear hV hmidL hallL hk hhd hlt hT hT0 hlen hD
    go_enter func208,ntmps208
    go_wp2_with fail
    refine(Zc0 l 7 _ _ c rfl hcap hm _ w hr).mono ?_
    rintro e w' ⟨rfl,rfl⟩
    rw[HV.out,Zal]
    go_wp2_with fail
    refine(Zli mid s HD.out (by omega) A1 _ _ (by rw[HM.out]) w (by rw[HM.out];exact hmid)).mono ?_
    rintro e w1 ⟨rfl,hb1⟩
    go_wp2_with fail
    refine(Zea s w1 (by omega)).mono ?_
    rintro e w' ⟨A2,c2,rfl,hc2,hr2,hb2⟩
    rw[HT0.out,Zal]
    have k2:=fun m=>Zb2 (w:=w'.drewN m) (hr2.drewN m) c2
    have k3:=fun m=>Zb2 (w:=w'.drewN m) (A:=some ⟨b,off,none⟩) (l:=all) (by rw[HL.out];exact((htake.below hb1).below (hb2.mono hb1.size)).drewN m) c
    rw[HL.out]at k3
    go_wp2_with fail
    go_quiet (fail)
    go_wp2
    go_ret3
    exact⟨rfl,Zhb (hb1.trans (hb2.mono hb1.size)) _⟩
 ·have hT:=Zmu (s:=mid) hV h4 h5 (by rw[hhd,if_neg h128,hmidL])
  rw[hallL]at hT
  rw[hT,if_neg (by omega)]
  have HV:=Hd hV
  have hk0:=hk w (Below.refl _ _) (c-U)
  have hT0:Zxg mid=0:=by rw[Zxg,if_neg (by omega)]
  have HT0:=Hd hT0
  have hml:mid.length<=400:=by omega
  have HL:=Hd hlt
  by_cases hx:Zco mid=all
  ·rw[if_pos hx]
   subst hx
   clear hV hmidL hallL hk hhd hlen hlt hT hT0
   go_enter func208,ntmps208
   go_wp2_with fail
   refine(Zc0 l 7 _ _ c rfl hcap hm _ w hr).mono ?_
   rintro e w' ⟨rfl,rfl⟩
   rw[HV.out,Zal]
   go_wp2_with fail
   refine(Zea mid w (by omega)).mono ?_
   rintro e w' ⟨A2,c2,rfl,hc2,hr2,hb2⟩
   rw[HT0.out,Zal]
   have k2:=fun m=>Zb2 (w:=w'.drewN m) (hr2.drewN m) c2
   have k3:=fun m=>Zb2 (w:=w'.drewN m) (A:=some ⟨b,off,none⟩) (l:=Zco mid) (by rw[HL.out];exact(htake.below hb2).drewN m) c
   rw[HL.out]at k2 k3⊢
   go_wp2_with fail
   go_quiet (fail)
   go_wp2
   go_ret3
   exact⟨rfl,Zhb hb2 _⟩
  ·rw[if_neg hx]
   have hx2:(Zco mid==all)=false:=by simpa using hx
   clear hV hmidL hallL hk hhd hlt hT hT0 hlen
   go_enter func208,ntmps208
   go_wp2_with fail
   refine(Zc0 l 7 _ _ c rfl hcap hm _ w hr).mono ?_
   rintro e w' ⟨rfl,rfl⟩
   rw[HV.out,Zal]
   go_wp2_with fail
   refine(Zea mid w (by omega)).mono ?_
   rintro e w' ⟨A2,c2,rfl,hc2,hr2,hb2⟩
   rw[HT0.out,Zal]
   have k2:=fun m=>Zb2 (w:=w'.drewN m) (hr2.drewN m) c2
   have k3:=fun m=>Zb2 (w:=w'.drewN m) (A:=some ⟨b,off,none⟩) (l:=all) (by rw[HL.out];exact(htake.below hb2).drewN m) c
   rw[HL.out]at k3
   go_wp2_with fail
   go_quiet (fail)
   go_wp2
   go_ret3
   exact⟨rfl,Zhb hb2 _⟩
end
end Go.Proofs.YtbgnggkgmeagkaaGreatDoor
