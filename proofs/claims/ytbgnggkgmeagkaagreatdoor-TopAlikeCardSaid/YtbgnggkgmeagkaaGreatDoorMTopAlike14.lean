/-
  A part of the proof of TopAlike: each theorem states its own conditions.
-/
import Derived.Test.YtbgnggkgmeagkaaGreatDoorMTopAlike02
import Derived.Test.YtbgnggkgmeagkaaGreatDoorShelf
import Derived.Shelf.Strings.SlTrimAscii
import Derived.Deep.LoopGhost
import Derived.Deep.CutRange
set_option linter.unusedSimpArgs false
set_option linter.unusedVariables false
set_option maxRecDepth 100000
set_option maxHeartbeats 16000000
namespace Go.Proofs.YtbgnggkgmeagkaaGreatDoor
open Go.Proofs.Tryz
section
open Go.RowKit
def Zdp :List UInt8:=[97,98,99,100,101,102,103,104,105,106,107,108,109,110,111,112,113,114,115,116,117,118,119,120,121,122,48,49,50,51,52,53,54,55,56,57,45,95]
def greatL :List UInt8:=[65,66,67,68,69,70,71,72,73,74,75,76,77,78,79,80,81,82,83,84,85,86,87,88,89,90]
def Zt5 :List UInt8:=Zdp++greatL
def Zgi (l:List UInt8):Bool:=decide (l≠[]) && decide (l.length<=400) && l.all (Zt5.contains ·)
def Zf7 (c:UInt8):Bool:=decide (32<=c.toNat) && decide (c.toNat<=126)
def Zbp (l:List UInt8):Bool:=decide (l.length<=400) && decide (Lib.trimB l 32=l) && l.all Zf7
def Zc4 (l:List UInt8):Bool:=decide (l≠[]) && Zbp l && !(decide (0<=Lib.indexByte l 32))
def Zhj (l:List UInt8):Bool:=Zgi l && l.all (Zdp.contains ·)
theorem Zim (l:List UInt8)(p:UInt8->Bool):l.dropWhile p=[]↔l.all p=true:=by
 induction l with
 | nil=>simp
 | cons a l ih=>
  rw[List.dropWhile_cons,List.all_cons]
  cases h:p a with
  | true=>simpa using ih
  | false=>simp
theorem Z1u (l:List UInt8)(p:UInt8->Bool):(l.takeWhile p).all p=true:=by
 induction l with
 | nil=>rfl
 | cons a l ih=>
  rw[List.takeWhile_cons]
  cases h:p a with
  | true=>simp[h]
  | false=>rfl
theorem below_dn {B:Nat}{w w1:World}(h:Below B w w1)(n:Nat):Below B w (w1.drewN n):=⟨h.os,h.tape,h.output,h.size,h.block⟩
theorem Zpa (l cs:List UInt8):Lib.trimS l cs=[]↔l.all (cs.contains ·)=true:=by
 unfold Lib.trimS Lib.trimLeftS Lib.trimRightS
 rw[Zim]
 constructor
 ·intro h
  have h2:(l.reverse.dropWhile (cs.contains ·)).all (cs.contains ·)=true:=by simpa using h
  have h3:=List.takeWhile_append_dropWhile (p:=(cs.contains ·)) (l:=l.reverse)
  have h4:l.reverse.all (cs.contains ·)=true:=by
   rw[<-h3,List.all_append,h2,Bool.and_true]
   exact Z1u _ _
  simpa using h4
 ·intro h
  have h2:l.reverse.dropWhile (cs.contains ·)=[]:=(Zim _ _).2 (by simpa using h)
  rw[h2]
  rfl
theorem set_info :∀w,(zeroValue 280).run prog w=.ok (.agg (Array.replicate 256 (.bool false))) w:=by
 intro w
 kernel_rfl
theorem Zt3 (s cs:List UInt8)(hs:s≠[])(hsl:s.length<=9223372036854775807)(h2:2<=cs.length)(hcl:cs.length < 4294967281)(ha:∀(j:Nat) b,cs[j]? =some b->b.toNat < 128)(w:World):
  CA 134 #[.string ⟨s.toArray⟩,.string ⟨cs.toArray⟩] w fun e w'=>e=.returned (.string ⟨(Lib.trimS s cs).toArray⟩)/\Below w.heap.size w w':=by
 refine(Any.strings_Trim_set Tryz.lays160 set_info (by kernel_rfl) ⟨s.toArray⟩ ⟨cs.toArray⟩ w h2 (by cases s with | nil=>exact absurd rfl hs | cons a t=>simp[ByteArray.size]) hsl hcl (by simpa using ha)).mono ?_
 rintro e w' ⟨he,q,rfl⟩
 exact⟨he,below_dn (((Below.refl _ _).alloc (Nat.le_refl _) _).alloc (by simp) _) q⟩
theorem Zx7 :∀(j:Nat) (b:UInt8),Zt5[j]? =some b->b.toNat < 128:=by
 intro j b h
 have h2:b∈Zt5:=List.mem_of_getElem? h
 have h3:∀b∈Zt5,b.toNat < 128:=by decide
 exact h3 b h2
theorem Zru :∀(j:Nat) (b:UInt8),Zdp[j]? =some b->b.toNat < 128:=by
 intro j b h
 have h2:b∈Zdp:=List.mem_of_getElem? h
 have h3:∀b∈Zdp,b.toNat < 128:=by decide
 exact h3 b h2
theorem Ze5 (l:List UInt8)(hl:l.length<=9223372036854775807)(w:World):
  CA 71 #[.string ⟨l.toArray⟩] w fun e w'=>e=.returned (.bool (Zgi l))/\Below w.heap.size w w':=by
 by_cases h0:l=[]
 ·subst h0
  go_enter func71,ntmps71
  go_wp2
  go_ret
  exact⟨rfl,Below.refl _ _⟩
 ·by_cases h4:l.length<=400
  ·have HT:=Hd (Zt3 l Zt5 h0 hl (by decide) (by decide) Zx7 w)
   have hne:((ByteArray.mk l.toArray)==⟨#[]⟩)=false:=by
    cases l with
    | nil=>exact absurd rfl h0
    | cons a t=>rfl
   have hsz:(ByteArray.mk l.toArray).size=l.length:=rfl
   have i4:((l.length:Nat):Int)<=400:=by omega
   have i5:=decide_eq_true i4
   obtain⟨t,ht⟩:=exl (Lib.trimS l Zt5)
   have htn:=Zpa l Zt5
   rw[ht]at htn HT
   have HTN:=Hd htn
   have H0:=Hd h0
   clear htn ht
   go_enter func71,ntmps71
   go_wp2_with fail
   refine Mo HT ?_
   rintro e w' ⟨rfl,hb⟩
   have HB:=Hd hb
   clear hb
   go_wp2
   go_ret
   refine⟨?_,HB.out⟩
   have e1:l.isEmpty=false:=by simpa using H0.out
   have e2:t.isEmpty=l.all (Zt5.contains ·):=by rw[Bool.eq_iff_iff,List.isEmpty_iff];exact HTN.out
   have e3:Zgi l=(!l.isEmpty && t.isEmpty):=by rw[e1,e2];simp[Zgi,H0.out,h4]
   rw[e3]
   rfl
  ·have hsz:(ByteArray.mk l.toArray).size=l.length:=rfl
   have i4:¬((l.length:Nat):Int)<=400:=by omega
   have i5:=decide_eq_false i4
   have e3:Zgi l=false:=by simp[Zgi,h4]
   have HE:=Hd e3
   clear e3
   go_enter func71,ntmps71
   go_wp2
   go_ret
   rw[HE.out]
   exact⟨by simp,Below.refl _ _⟩
theorem Zmv (c:UInt8)(w:World):
  CA 137 #[.int .u8 ((c.toNat:Nat):Int)] w fun e w'=>e=.returned (.bool (!Zf7 c))/\w=w':=by
 obtain⟨n,hn⟩:=exl (c.toNat)
 have hs:Zf7 c=(decide (32<=n) && decide (n<=126)):=by rw[<-hn];rfl
 rw[hn,hs]
 clear hs hn
 by_cases h1:n < 32
 ·have i1:((n:Nat):Int) < 32:=by omega
  have i2:=decide_eq_true i1
  go_enter func137,ntmps137
  go_wp2
  go_ret
  refine⟨?_,rfl⟩
  have:decide (32<=n)=false:=decide_eq_false (by omega)
  rw[this]
  rfl
 ·by_cases h2:126 < n
  ·have i1:¬((n:Nat):Int) < 32:=by omega
   have i2:=decide_eq_false i1
   have i3:(126:Int) < ((n:Nat):Int):=by omega
   have i4:=decide_eq_true i3
   go_enter func137,ntmps137
   go_wp2
   go_ret
   refine⟨?_,rfl⟩
   have:decide (n<=126)=false:=decide_eq_false (by omega)
   rw[this,Bool.not_false,Bool.or_true]
   rfl
  ·have i1:¬((n:Nat):Int) < 32:=by omega
   have i2:=decide_eq_false i1
   have i3:¬(126:Int) < ((n:Nat):Int):=by omega
   have i4:=decide_eq_false i3
   go_enter func137,ntmps137
   go_wp2
   go_ret
   refine⟨?_,rfl⟩
   have e1:decide (n<=126)=true:=decide_eq_true (by omega)
   have e2:decide (32<=n)=true:=decide_eq_true (by omega)
   rw[e1,e2]
   rfl
abbrev fnV (f:FuncId):Value:=.func (.func f) #[] #[]
theorem Zwj (l:List UInt8)(A:Option Addr)(n c:Nat)(hn:n=l.length)(hl:l.length<=9223372036854775807)(w:World)(hr:Zab w w.heap.size 1 A l.length (bs l)):
  CA 195 #[.slice A n c,fnV 137] w fun e w'=>(∃z:Int,e=.returned (.int .i64 z)/\decide (0<=z)= !(l.all Zf7))/\w=w':=by
 subst hn
 go_enter func195,ntmps195
 go_wp2_with fail
 go_loopg [8] l.length (fun m i wr=>∃k:Nat,m+k=l.length/\i=.int .i64 (k:Int)/\Hid ((l.take k).all Zf7=true)/\w=wr)
 case atStart=>exact⟨0,rfl,rfl,rfl,rfl⟩
 case round=>
  obtain⟨k,hk,rfl,HT,rfl⟩:=hrel
  by_cases hlt:k < l.length
  ·obtain⟨b,off,hA,hbB,hcl⟩:=Zbm hr hlt
   subst hA
   obtain⟨x,hx⟩:=exl (l[k])
   rw[hx]at hcl
   have HX:=Hd hx
   have hki:((k:Nat):Int) < ((l.length:Nat):Int):=by omega
   clear hx hr
   cases hs:Zf7 x with
   | true=>
    have HP:=Hd (Zmv x w)
    rw[hs]at HP
    have HS:=Hd hs
    clear hs
    go_wp2_with fail
    refine Mo HP ?_
    rintro e w' ⟨rfl,rfl⟩
    go_wp2_with fail
    go_roundg (gk-1)
    case measure=>omega
    case rel=>exact⟨k+1,by omega,by go_num,by show(l.take (k+1)).all Zf7=true;rw[List.take_succ_eq_append_getElem hlt,List.all_append,HT.out,HX.out];simp[HS.out],rfl⟩
   | false=>
    have HP:=Hd (Zmv x w)
    rw[hs]at HP
    have hal:l.all Zf7=false:=by
     rw[List.all_eq_false]
     exact⟨x,by rw[<-HX.out];exact List.getElem_mem hlt,by rw[hs];simp⟩
    have HAL:=Hd hal
    clear hs hal
    go_wp2_with fail
    refine Mo HP ?_
    rintro e w' ⟨rfl,rfl⟩
    go_wp2
    go_ret
    exact⟨⟨_,rfl,by rw[HAL.out];simp⟩,rfl⟩
  ·have hkl:k=l.length:=by omega
   have hal:l.all Zf7=true:=by
    have h:=HT.out
    rwa [hkl,List.take_length]at h
   have HAL:=Hd hal
   have hki:¬((k:Nat):Int) < ((l.length:Nat):Int):=by omega
   clear hal hr
   go_wp2
   go_ret
   exact⟨⟨_,rfl,by rw[HAL.out];simp⟩,rfl⟩
theorem Zoq (l:List UInt8)(A:Option Addr)(n c:Nat)(hn:n=l.length)(hl:l.length<=9223372036854775807)(w:World)(hr:Zab w w.heap.size 1 A l.length (bs l)):
  CA 136 #[.slice A n c,fnV 137] w fun e w'=>e=.returned (.bool (!(l.all Zf7)))/\w=w':=by
 have HI:=Hd (Zwj l A n c hn hl w hr)
 clear hr hn
 go_enter func136,ntmps136
 go_wp2_with fail
 refine Mo HI ?_
 rintro e w' ⟨⟨z,rfl,hz⟩,rfl⟩
 go_wp2
 go_ret
 refine⟨?_,rfl⟩
 rw[<-hz]
 rfl
theorem Zfd (l:List UInt8)(hl:l.length<=9223372036854775807)(w:World):
  CA 73 #[.string ⟨l.toArray⟩] w fun e w'=>e=.returned (.bool (Zbp l))/\Below w.heap.size w w':=by
 have hsz:(ByteArray.mk l.toArray).size=l.length:=rfl
 by_cases h4:l.length<=400
 ·have i4:((l.length:Nat):Int)<=400:=by omega
  have i5:=decide_eq_true i4
  have HT:=Hd (Tryz.strings_Trim_one ⟨l.toArray⟩ 32 (by decide) w hl)
  obtain⟨t,ht⟩:=exl (Lib.trimB l 32)
  have ht':Lib.trimB (ByteArray.mk l.toArray).data.toList 32=t:=ht
  rw[ht']at HT
  have HTE:=Hd ht
  clear ht ht'
  go_enter func73,ntmps73
  go_wp2_with fail
  refine Mo HT ?_
  rintro e w1 ⟨rfl,hw1⟩
  have hb1:Below w.heap.size w w1:=by
   rcases hw1 with rfl | rfl
   ·exact Below.refl _ _
   ·exact(Below.refl _ _).drew
  have HB1:=Hd hb1
  clear hw1 hb1
  by_cases htl:t=l
  ·have hpl:Zbp l=l.all Zf7:=by
    have e1:decide (Lib.trimB l 32=l)=true:=decide_eq_true (HTE.out.trans htl)
    have e2:=decide_eq_true h4
    unfold Zbp
    rw[e1,e2]
    rfl
   have HPL:=Hd hpl
   have e3:(t==l)=true:=by rw[htl];simp
   obtain⟨c,W,hk,hcap,hr,hbW,hWs⟩:=Zg8 w1 l
   have HC:=Hd (Zoq l _ _ c rfl hl W hr)
   have HBW:=Hd hbW
   clear hcap hr hbW hWs hpl htl
   go_wp2_with fail
   refine Mo HC ?_
   rintro e w2 ⟨rfl,rfl⟩
   go_wp2
   go_ret
   refine⟨?_,HB1.out.trans (HBW.out.mono HB1.out.size)⟩
   rw[HPL.out]
   simp
  ·have hpl:Zbp l=false:=by
    have e1:decide (Lib.trimB l 32=l)=false:=decide_eq_false (fun h=>htl (HTE.out.symm.trans h))
    unfold Zbp
    rw[e1,Bool.and_false]
    rfl
   have HPL:=Hd hpl
   have e3:(t==l)=false:=beq_eq_false_iff_ne.2 htl
   clear hpl htl
   go_wp2
   go_ret
   exact⟨by rw[HPL.out];rfl,HB1.out⟩
 ·have i4:¬((l.length:Nat):Int)<=400:=by omega
  have i5:=decide_eq_false i4
  have e3:Zbp l=false:=by simp[Zbp,h4]
  have HE:=Hd e3
  clear e3
  go_enter func73,ntmps73
  go_wp2
  go_ret
  exact⟨by rw[HE.out];rfl,Below.refl _ _⟩
def Zzz :List UInt8:=[104,111,115,116]
def Zdf :List UInt8:=[108,101,110,103,116,104]
def Zor :List UInt8:=[99,111,100,105,110,103]
def Zwf (l:List UInt8):Bool:=l==Zzz || (l==Zdf || l==Zor)
def Zok :List Fld->Nat
 | []=>0
 | f::l=>if(Zhj f.1 && Zbp f.2)=false then 2 else if Zwf f.1=true then 3 else Zok l
theorem Zh5 (l:List UInt8)(hl:l.length<=9223372036854775807)(w:World):
  CA 72 #[.string ⟨l.toArray⟩] w fun e w'=>e=.returned (.bool (Zc4 l))/\Below w.heap.size w w':=by
 by_cases h0:l=[]
 ·subst h0
  go_enter func72,ntmps72
  go_wp2
  go_ret
  exact⟨rfl,Below.refl _ _⟩
 ·have HP:=Hd (Zfd l hl w)
  have e0:l.isEmpty=false:=by simpa using h0
  have H0:=Hd h0
  clear h0
  cases hp:Zbp l with
  | false=>
   rw[hp]at HP
   have HE:=Hd (show Zc4 l=false by simp[Zc4,hp])
   clear hp
   go_enter func72,ntmps72
   go_wp2_with fail
   refine Mo HP ?_
   rintro e w1 ⟨rfl,hb⟩
   have HB:=Hd hb
   clear hb
   go_wp2
   go_ret
   exact⟨by rw[HE.out];rfl,HB.out⟩
  | true=>
   rw[hp]at HP
   obtain⟨z,hz⟩:=exl (decide (0<=Lib.indexByte l 32))
   have HC:=Hd (show∀w1,CA 135 #[.string ⟨l.toArray⟩,.string ⟨#[32]⟩] w1 fun e w'=>e=.returned (.bool z)/\w'=w1 from fun w1=>by
    have:=Tryz.strings_Contains_one ⟨l.toArray⟩ 32 w1
    rw[<-hz]
    exact this)
   have HE:=Hd (show Zc4 l= !z by simp[Zc4,hp,H0.out,hz])
   clear hp hz
   go_enter func72,ntmps72
   go_wp2_with fail
   refine Mo HP ?_
   rintro e w1 ⟨rfl,hb⟩
   have HB:=Hd hb
   clear hb
   go_wp2_with fail
   refine(HC.out w1).mono ?_
   rintro e w2 ⟨rfl,rfl⟩
   go_wp2
   go_ret
   exact⟨by rw[HE.out];rfl,HB.out⟩
theorem Zuq (l:List UInt8)(hl:l.length<=9223372036854775807)(w:World):
  CA 138 #[.string ⟨l.toArray⟩] w fun e w'=>e=.returned (.bool (Zhj l))/\Below w.heap.size w w':=by
 have HP:=Hd (Ze5 l hl w)
 cases ht:Zgi l with
 | false=>
  rw[ht]at HP
  have HE:=Hd (show Zhj l=false by simp[Zhj,ht])
  clear ht
  go_enter func138,ntmps138
  go_wp2_with fail
  refine Mo HP ?_
  rintro e w1 ⟨rfl,hb⟩
  have HB:=Hd hb
  clear hb
  go_wp2
  go_ret
  exact⟨by rw[HE.out];rfl,HB.out⟩
 | true=>
  rw[ht]at HP
  have h0:l≠[]:=by
   intro h
   subst h
   cases ht
  obtain⟨t,hts⟩:=exl (Lib.trimS l Zdp)
  have HC:=Hd (show∀w1,CA 134 #[.string ⟨l.toArray⟩,.string ⟨Zdp.toArray⟩] w1 fun e w'=>e=.returned (.string ⟨t.toArray⟩)/\Below w1.heap.size w1 w' from fun w1=>by
   rw[<-hts]
   exact Zt3 l Zdp h0 hl (by decide) (by decide) Zru w1)
  have htn:=Zpa l Zdp
  rw[hts]at htn
  have HE:=Hd (show Zhj l=t.isEmpty by
   unfold Zhj
   rw[ht,Bool.true_and,Bool.eq_iff_iff,List.isEmpty_iff]
   exact htn.symm)
  clear ht hts htn
  go_enter func138,ntmps138
  go_wp2_with fail
  refine Mo HP ?_
  rintro e w1 ⟨rfl,hb⟩
  have HB:=Hd hb
  clear hb
  go_wp2_with fail
  refine(HC.out w1).mono ?_
  rintro e w2 ⟨rfl,hb2⟩
  have HB2:=Hd (HB.out.trans (hb2.mono HB.out.size))
  clear hb2
  go_wp2
  go_ret
  exact⟨by rw[HE.out];rfl,HB2.out⟩
theorem Zsa (l:List UInt8)(w:World):
  CA 83 #[.string ⟨l.toArray⟩] w fun e w'=>e=.returned (.bool (Zwf l))/\w=w':=by
 obtain⟨a,ha⟩:=exl ((l==Zzz))
 obtain⟨b,hb⟩:=exl ((l==Zdf))
 obtain⟨c,hc⟩:=exl ((l==Zor))
 have HE:=Hd (show Zwf l=(a || (b || c))by rw[<-ha,<-hb,<-hc];rfl)
 have ha':(l==[104,111,115,116])=a:=ha
 have hb':(l==[108,101,110,103,116,104])=b:=hb
 have hc':(l==[99,111,100,105,110,103])=c:=hc
 clear ha hb hc
 cases a <;> cases b <;> cases c <;>(go_enter func83,ntmps83;go_wp2;go_ret;exact⟨by rw[HE.out];rfl,rfl⟩)
def Zjm (l:List Fld):Prop:=∀f∈l,f.1.length<=9223372036854775807/\f.2.length<=9223372036854775807
theorem Zhz (l:List Fld)(hf:Zjm l)(hm:l.length<=140737488355328)(A:Option Addr)(n c:Nat)(hn:n=l.length)(w:World)(hr:Zab w w.heap.size 2 A l.length (fvs l)):
  CA 74 #[.slice A n c] w fun e w'=>e=.returned (Zjq (Zok l))/\Below w.heap.size w w':=by
 subst hn
 have HR:=Hd hr
 have HF:=Hd hf
 clear hr hf
 go_enter func74,ntmps74
 go_wp2_with fail
 go_loopg [7] l.length (fun m i wr=>∃k:Nat,m+k=l.length/\i=.int .i64 (k:Int)/\Hid (Zok l=Zok (l.drop k))/\Hid (Below w.heap.size w wr))
 case atStart=>exact⟨0,rfl,rfl,rfl,Below.refl _ _⟩
 case round=>
  obtain⟨k,hk,rfl,HE,HB⟩:=hrel
  by_cases hlt:k < l.length
  ·obtain⟨b,off,hA,hbB,hcl⟩:=Zb4 (HR.out.below HB.out) (by omega)
   subst hA
   obtain⟨c0,c1⟩:=hcl k hlt
   obtain⟨h1,h2⟩:=HF.out l[k] (List.getElem_mem hlt)
   have hd:l.drop k=l[k]::l.drop (k+1):=List.drop_eq_getElem_cons hlt
   obtain⟨f,hfk⟩:=exl (l[k])
   rw[hfk]at c0 c1 h1 h2 hd
   have hE:=HE.out
   rw[hd]at hE
   have HE2:=Hd hE
   have hbw:=Nat.lt_of_lt_of_le hbB HB.out.size
   have hki:((k:Nat):Int) < ((l.length:Nat):Int):=by omega
   have HL1:=Hd h1
   have HL2:=Hd h2
   obtain⟨f1,f2⟩:=f
   simp only at c0 c1 HL1 HL2
   have hba:Below w.heap.size w (wr.alloc (.cells #[.string ⟨f1.toArray⟩,.string ⟨f2.toArray⟩] 41)):=HB.out.alloc HB.out.size _
   have HBA:=Hd hba
   have q:∀w1,Below (wr.alloc (.cells #[.string ⟨f1.toArray⟩,.string ⟨f2.toArray⟩] 41)).heap.size (wr.alloc (.cells #[.string ⟨f1.toArray⟩,.string ⟨f2.toArray⟩] 41)) w1->w1.cell? ⟨wr.heap.size,0,none⟩=some (.string ⟨f1.toArray⟩)/\w1.cell? ⟨wr.heap.size,1,none⟩=some (.string ⟨f2.toArray⟩)/\wr.heap.size < w1.heap.size/\Below w.heap.size w w1:=by
    intro w1 h
    have hs:=h.size
    have hz:(wr.alloc (.cells #[.string ⟨f1.toArray⟩,.string ⟨f2.toArray⟩] 41)).heap.size=wr.heap.size+1:=by simp
    have hb:=Blk.new wr 41 #[.string ⟨f1.toArray⟩,.string ⟨f2.toArray⟩]
    have hb2:=hb.below h hb.lt
    exact⟨hb2.cell 0,hb2.cell 1,by omega,hba.trans (h.mono hba.size)⟩
   have HQ:=Hd q
   clear hcl hd hE hfk h1 h2 HE hba hbB q
   cases hn:Zhj f1 with
   | false=>
    have HN:=Hd (show∀w1,CA 138 #[.string ⟨f1.toArray⟩] w1 fun e w'=>e=.returned (.bool false)/\Below w1.heap.size w1 w' from fun w1=>by rw[<-hn];exact Zuq f1 HL1.out w1)
    have HX:=Hd (show Zok l=2 by rw[HE2.out];simp[Zok,hn])
    clear hn
    go_wp2_with fail
    refine(HN.out _).mono ?_
    rintro e w1 ⟨rfl,hb1⟩
    have HQ1:=Hd (HQ.out w1 hb1).2.2.2
    clear hb1
    go_wp2
    go_ret
    exact⟨by rw[HX.out];rfl,HQ1.out⟩
   | true=>
    have HN:=Hd (show∀w1,CA 138 #[.string ⟨f1.toArray⟩] w1 fun e w'=>e=.returned (.bool true)/\Below w1.heap.size w1 w' from fun w1=>by rw[<-hn];exact Zuq f1 HL1.out w1)
    cases hp:Zbp f2 with
    | false=>
     have HP:=Hd (show∀w1,CA 73 #[.string ⟨f2.toArray⟩] w1 fun e w'=>e=.returned (.bool false)/\Below w1.heap.size w1 w' from fun w1=>by rw[<-hp];exact Zfd f2 HL2.out w1)
     have HX:=Hd (show Zok l=2 by rw[HE2.out];simp[Zok,hp])
     clear hn hp
     go_wp2_with fail
     refine(HN.out _).mono ?_
     rintro e w1 ⟨rfl,hb1⟩
     obtain⟨d0,d1,dl,-⟩:=HQ.out w1 hb1
     have HB1:=Hd hb1
     clear hb1
     go_wp2_with fail
     refine(HP.out _).mono ?_
     rintro e w2 ⟨rfl,hb2⟩
     have HQ1:=Hd (HQ.out w2 (HB1.out.trans (hb2.mono HB1.out.size))).2.2.2
     clear hb2 d0 d1 dl
     go_wp2
     go_ret
     exact⟨by rw[HX.out];rfl,HQ1.out⟩
    | true=>
     have HP:=Hd (show∀w1,CA 73 #[.string ⟨f2.toArray⟩] w1 fun e w'=>e=.returned (.bool true)/\Below w1.heap.size w1 w' from fun w1=>by rw[<-hp];exact Zfd f2 HL2.out w1)
     cases ho:Zwf f1 with
     | true=>
      have HO:=Hd (show∀w1,CA 83 #[.string ⟨f1.toArray⟩] w1 fun e w'=>e=.returned (.bool true)/\w1=w' from fun w1=>by rw[<-ho];exact Zsa f1 w1)
      have HX:=Hd (show Zok l=3 by rw[HE2.out];simp[Zok,hn,hp,ho])
      clear hn hp ho
      go_wp2_with fail
      refine(HN.out _).mono ?_
      rintro e w1 ⟨rfl,hb1⟩
      obtain⟨d0,d1,dl,-⟩:=HQ.out w1 hb1
      have HB1:=Hd hb1
      clear hb1
      go_wp2_with fail
      refine(HP.out _).mono ?_
      rintro e w2 ⟨rfl,hb2⟩
      obtain⟨d0,d1,dl,hq⟩:=HQ.out w2 (HB1.out.trans (hb2.mono HB1.out.size))
      have HQ1:=Hd hq
      clear hb2 hq
      go_wp2_with fail
      refine(HO.out _).mono ?_
      rintro e w3 ⟨rfl,rfl⟩
      go_wp2
      go_ret
      exact⟨by rw[HX.out];rfl,HQ1.out⟩
     | false=>
      have HO:=Hd (show∀w1,CA 83 #[.string ⟨f1.toArray⟩] w1 fun e w'=>e=.returned (.bool false)/\w1=w' from fun w1=>by rw[<-ho];exact Zsa f1 w1)
      have HX:=Hd (show Zok l=Zok (l.drop (k+1))by rw[HE2.out];simp[Zok,hn,hp,ho])
      clear hn hp ho
      go_wp2_with fail
      refine(HN.out _).mono ?_
      rintro e w1 ⟨rfl,hb1⟩
      obtain⟨d0,d1,dl,-⟩:=HQ.out w1 hb1
      have HB1:=Hd hb1
      clear hb1
      go_wp2_with fail
      refine(HP.out _).mono ?_
      rintro e w2 ⟨rfl,hb2⟩
      obtain⟨d0,d1,dl,hq⟩:=HQ.out w2 (HB1.out.trans (hb2.mono HB1.out.size))
      have HQ1:=Hd hq
      clear hb2 hq
      go_wp2_with fail
      refine(HO.out _).mono ?_
      rintro e w3 ⟨rfl,rfl⟩
      go_wp2_with fail
      go_roundg (gk-1)
      case measure=>omega
      case rel=>exact⟨k+1,by omega,by go_num,HX.out,HQ1.out⟩
  ·have hkl:k=l.length:=by omega
   have hE:Zok l=0:=by
    rw[HE.out,hkl,List.drop_length]
    rfl
   have HX:=Hd hE
   have hki:¬((k:Nat):Int) < ((l.length:Nat):Int):=by omega
   clear hE
   go_wp2
   go_ret
   exact⟨by rw[HX.out];rfl,HB.out⟩
def Zf8 (m p h:List UInt8)(fs:List Fld)(nb:Nat):Nat:=
 if 40 < fs.length∨8000 < nb then 4 else if Zgi m=false then 2 else if Zc4 p=false then 2 else if h=[]then 2 else if Zbp h=false then 2 else Zok fs
abbrev Zcf (m p h:List UInt8)(FA:Option Addr)(fn fc:Nat)(BA:Option Addr)(bn bc:Nat):Array Value:= #[.string ⟨m.toArray⟩,.string ⟨p.toArray⟩,.string ⟨h.toArray⟩,.slice FA fn fc,.slice BA bn bc]
theorem Zij (FA:Option Addr)(fn fc:Nat)(BA:Option Addr)(bn bc:Nat)(w:World):
  CA 70 #[.slice FA fn fc,.slice BA bn bc] w fun e w'=>e=.returned (.bool (decide (40 < fn∨8000 < bn)))/\w=w':=by
 by_cases h1:40 < fn
 ·have i1:(40:Int) < ((fn:Nat):Int):=by omega
  have i2:=decide_eq_true i1
  have HX:=Hd (decide_eq_true (show 40 < fn∨8000 < bn from .inl h1))
  go_enter func70,ntmps70
  go_wp2
  go_ret
  exact⟨by first | rfl | (rw[HX.out];rfl),rfl⟩
 ·have i1:¬(40:Int) < ((fn:Nat):Int):=by omega
  have i2:=decide_eq_false i1
  by_cases h2:8000 < bn
  ·have i3:(8000:Int) < ((bn:Nat):Int):=by omega
   have i4:=decide_eq_true i3
   have HX:=Hd (decide_eq_true (show 40 < fn∨8000 < bn from .inr h2))
   go_enter func70,ntmps70
   go_wp2
   go_ret
   exact⟨by first | rfl | (rw[HX.out];rfl),rfl⟩
  ·have i3:¬(8000:Int) < ((bn:Nat):Int):=by omega
   have i4:=decide_eq_false i3
   have HX:=Hd (decide_eq_false (show¬(40 < fn∨8000 < bn)by omega))
   go_enter func70,ntmps70
   go_wp2
   go_ret
   exact⟨by first | rfl | (rw[HX.out];rfl),rfl⟩
theorem Zex (m p h:List UInt8)(fs:List Fld)(hm:m.length<=9223372036854775807)(hp:p.length<=9223372036854775807)(hh:h.length<=9223372036854775807)(hf:Zjm fs)(hfl:fs.length<=140737488355328)(FA:Option Addr)(fn fc:Nat)(hfn:fn=fs.length)(BA:Option Addr)(bn bc:Nat)(w:World)(hr:Zab w w.heap.size 2 FA fs.length (fvs fs)):
  CA 26 #[.agg (Zcf m p h FA fn fc BA bn bc)] w fun e w'=>e=.returned (Zjq (Zf8 m p h fs bn))/\Below w.heap.size w w':=by
 subst hfn
 obtain⟨W,hW⟩:=exl (w.alloc (.cells (Zcf m p h FA fs.length fc BA bn bc) 25))
 have q:∀w1,Below W.heap.size W w1->w1.cell? ⟨w.heap.size,0,none⟩=some (.string ⟨m.toArray⟩)/\w1.cell? ⟨w.heap.size,1,none⟩=some (.string ⟨p.toArray⟩)/\w1.cell? ⟨w.heap.size,2,none⟩=some (.string ⟨h.toArray⟩)/\w1.cell? ⟨w.heap.size,3,none⟩=some (.slice FA fs.length fc)/\w1.cell? ⟨w.heap.size,4,none⟩=some (.slice BA bn bc)/\w.heap.size < w1.heap.size/\Below w.heap.size w w1:=by
  intro w1 h1
  rw[<-hW]at h1
  have hb:=Blk.new w 25 (Zcf m p h FA fs.length fc BA bn bc)
  have hb2:=hb.below h1 hb.lt
  have hba:Below w.heap.size w (w.alloc (.cells (Zcf m p h FA fs.length fc BA bn bc) 25)):=(Below.refl _ _).alloc (Nat.le_refl _) _
  exact⟨hb2.cell 0,hb2.cell 1,hb2.cell 2,hb2.cell 3,hb2.cell 4,hb2.lt,hba.trans (h1.mono hba.size)⟩
 have HQ:=Hd q
 have HR:=Hd hr
 have HM:=Hd hm
 have HP:=Hd hp
 have HH:=Hd hh
 have HF:=Hd hf
 have HFL:=Hd hfl
 obtain⟨d0,d1,d2,d3,d4,dl,-⟩:=q W (Below.refl _ _)
 clear q hr hm hp hh hf hfl
 have HW:=Hd hW
 have HBW:=Hd (HQ.out W (Below.refl _ _)).2.2.2.2.2.2
 go_enter func26,ntmps26
 go_upto_region 1 with fail
 clear hW
 by_cases h4:40 < fs.length∨8000 < bn
 ·have HX:=Hd (show Zf8 m p h fs bn=4 by unfold Zf8;rw[if_pos h4])
  have HD:=Hd (decide_eq_true h4)
  clear h4
  go_wp2_with fail
  refine(Zij _ _ _ _ _ _ _).mono ?_
  rintro e w1 ⟨rfl,rfl⟩
  rw[HD.out]
  go_wp2
  go_ret
  exact⟨by rw[HX.out];rfl,HBW.out⟩
 ·have HD:=Hd (decide_eq_false h4)
  go_wp2_with fail
  refine(Zij _ _ _ _ _ _ _).mono ?_
  rintro e w1 ⟨rfl,rfl⟩
  rw[HD.out]
  cases ht:Zgi m with
  | false=>
   have HX:=Hd (show Zf8 m p h fs bn=2 by unfold Zf8;rw[if_neg h4,if_pos ht])
   have HT:=Hd (show CA 71 #[.string ⟨m.toArray⟩] W fun e w'=>e=.returned (.bool false)/\Below W.heap.size W w' from by rw[<-ht];exact Ze5 m HM.out W)
   clear h4 ht
   go_wp2_with fail
   refine Mo HT ?_
   rintro e w1 ⟨rfl,hb1⟩
   have HB1:=Hd (HQ.out w1 hb1).2.2.2.2.2.2
   clear hb1
   go_wp2
   go_ret
   exact⟨by rw[HX.out];rfl,HB1.out⟩
  | true=>
   have HT:=Hd (show CA 71 #[.string ⟨m.toArray⟩] W fun e w'=>e=.returned (.bool true)/\Below W.heap.size W w' from by rw[<-ht];exact Ze5 m HM.out W)
   cases hwd:Zc4 p with
   | false=>
    have HX:=Hd (show Zf8 m p h fs bn=2 by unfold Zf8;rw[if_neg h4,if_neg (by rw[ht];decide),if_pos hwd])
    have HWD:=Hd (show∀w1,CA 72 #[.string ⟨p.toArray⟩] w1 fun e w'=>e=.returned (.bool false)/\Below w1.heap.size w1 w' from fun w1=>by rw[<-hwd];exact Zh5 p HP.out w1)
    clear h4 ht hwd
    go_wp2_with fail
    refine Mo HT ?_
    rintro e w1 ⟨rfl,hb1⟩
    have HB1:=Hd hb1
    obtain⟨d0,d1,d2,d3,d4,dl,-⟩:=HQ.out w1 hb1
    clear hb1
    go_wp2_with fail
    refine(HWD.out w1).mono ?_
    rintro e w2 ⟨rfl,hb2⟩
    have HB2:=Hd (HQ.out w2 (HB1.out.trans (hb2.mono HB1.out.size))).2.2.2.2.2.2
    clear hb2
    go_wp2
    go_ret
    exact⟨by rw[HX.out];rfl,HB2.out⟩
   | true=>
    have HWD:=Hd (show∀w1,CA 72 #[.string ⟨p.toArray⟩] w1 fun e w'=>e=.returned (.bool true)/\Below w1.heap.size w1 w' from fun w1=>by rw[<-hwd];exact Zh5 p HP.out w1)
    by_cases h0:h=[]
    ·have HX:=Hd (show Zf8 m p h fs bn=2 by unfold Zf8;rw[if_neg h4,if_neg (by rw[ht];decide),if_neg (by rw[hwd];decide),if_pos h0])
     have e0:h.isEmpty=true:=by simpa using h0
     clear h4 ht hwd h0
     go_wp2_with fail
     refine Mo HT ?_
     rintro e w1 ⟨rfl,hb1⟩
     have HB1:=Hd hb1
     obtain⟨d0,d1,d2,d3,d4,dl,-⟩:=HQ.out w1 hb1
     clear hb1
     go_wp2_with fail
     refine(HWD.out w1).mono ?_
     rintro e w2 ⟨rfl,hb2⟩
     obtain⟨d0,d1,d2,d3,d4,dl,hq⟩:=HQ.out w2 (HB1.out.trans (hb2.mono HB1.out.size))
     have HB2:=Hd hq
     clear hb2 hq
     go_wp2
     go_ret
     exact⟨by rw[HX.out];rfl,HB2.out⟩
    ·have e0:h.isEmpty=false:=by simpa using h0
     cases hpl:Zbp h with
     | false=>
      have HX:=Hd (show Zf8 m p h fs bn=2 by unfold Zf8;rw[if_neg h4,if_neg (by rw[ht];decide),if_neg (by rw[hwd];decide),if_neg h0,if_pos hpl])
      have HPL:=Hd (show∀w1,CA 73 #[.string ⟨h.toArray⟩] w1 fun e w'=>e=.returned (.bool false)/\Below w1.heap.size w1 w' from fun w1=>by rw[<-hpl];exact Zfd h HH.out w1)
      clear h4 ht hwd h0 hpl
      go_wp2_with fail
      refine Mo HT ?_
      rintro e w1 ⟨rfl,hb1⟩
      have HB1:=Hd hb1
      obtain⟨d0,d1,d2,d3,d4,dl,-⟩:=HQ.out w1 hb1
      clear hb1
      go_wp2_with fail
      refine(HWD.out w1).mono ?_
      rintro e w2 ⟨rfl,hb2⟩
      have HB2:=Hd (HB1.out.trans (hb2.mono HB1.out.size))
      obtain⟨d0,d1,d2,d3,d4,dl,-⟩:=HQ.out w2 HB2.out
      clear hb2
      go_wp2_with fail
      refine(HPL.out w2).mono ?_
      rintro e w3 ⟨rfl,hb3⟩
      have HB3:=Hd (HQ.out w3 (HB2.out.trans (hb3.mono HB2.out.size))).2.2.2.2.2.2
      clear hb3
      go_wp2
      go_ret
      exact⟨by rw[HX.out];rfl,HB3.out⟩
     | true=>
      have HX:=Hd (show Zf8 m p h fs bn=Zok fs by unfold Zf8;rw[if_neg h4,if_neg (by rw[ht];decide),if_neg (by rw[hwd];decide),if_neg h0,if_neg (by rw[hpl];decide)])
      have HPL:=Hd (show∀w1,CA 73 #[.string ⟨h.toArray⟩] w1 fun e w'=>e=.returned (.bool true)/\Below w1.heap.size w1 w' from fun w1=>by rw[<-hpl];exact Zfd h HH.out w1)
      clear h4 ht hwd h0 hpl
      go_wp2_with fail
      refine Mo HT ?_
      rintro e w1 ⟨rfl,hb1⟩
      have HB1:=Hd hb1
      obtain⟨d0,d1,d2,d3,d4,dl,-⟩:=HQ.out w1 hb1
      clear hb1
      go_wp2_with fail
      refine(HWD.out w1).mono ?_
      rintro e w2 ⟨rfl,hb2⟩
      have HB2:=Hd (HB1.out.trans (hb2.mono HB1.out.size))
      obtain⟨d0,d1,d2,d3,d4,dl,-⟩:=HQ.out w2 HB2.out
      clear hb2
      go_wp2_with fail
      refine(HPL.out w2).mono ?_
      rintro e w3 ⟨rfl,hb3⟩
      have HB3:=Hd (HB2.out.trans (hb3.mono HB2.out.size))
      obtain⟨d0,d1,d2,d3,d4,dl,hq⟩:=HQ.out w3 HB3.out
      have HB0:=Hd hq
      clear hb3 hq
      go_wp2_with fail
      refine(Zhz fs HF.out HFL.out FA _ fc rfl w3 ((HR.out.below HB0.out).more HB0.out.size)).mono ?_
      rintro e w4 ⟨rfl,hb4⟩
      have HB4:=Hd (HB0.out.trans (hb4.mono HB0.out.size))
      clear hb4
      go_wp2
      go_ret
      exact⟨by rw[HX.out];rfl,HB4.out⟩
def IsB (B b:Nat)(l:List UInt8)(w:World):Prop:=B<=b/\∃p v,(p=.pointer none∨p=.pointer (some ⟨b,0,none⟩))/\Blk w b 160 #[p,v]/\w.ownsRow B 5 1 v l.length (bs l)
theorem isB_new (w:World):IsB w.heap.size w.heap.size [] (w.alloc (.cells #[.pointer none,.slice none 0 0] 160)):=
 ⟨Nat.le_refl _,.pointer none,.slice none 0 0,.inl rfl,Blk.new w _ _,World.ownsRow_nil _ _ _ _⟩
theorem IsB.alloc {B b:Nat}{l:List UInt8}{w:World}(h:IsB B b l w)(o:Obj):IsB B b l (w.alloc o):=by
 obtain⟨h1,p,v,h2,h3,h4⟩:=h
 exact⟨h1,p,v,h2,h3.below ((Below.refl _ _).alloc (Nat.le_refl _) o) h3.lt,h4.alloc o⟩
theorem Z1m {b:Nat}{p v:Value}{w:World}(hp:p=.pointer none∨p=.pointer (some ⟨b,0,none⟩))(hb:Blk w b 160 #[p,v]):
  CA 139 #[.pointer (some ⟨b,0,none⟩)] w fun e w'=>e=.returned (.tuple #[])/\(w'=w∨w'=w.setCell ⟨b,0,none⟩ (.pointer (some ⟨b,0,none⟩)))/\Blk w' b 160 #[.pointer (some ⟨b,0,none⟩),v]:=by
 have c0:=hb.cell 0
 have f0:=hb.frozen 0
 have hl:=hb.lt
 have hs:=hb.set_ 0 (.pointer (some ⟨b,0,none⟩))
 have HS:=Hd hs
 have HB:=Hd hb
 clear hs hb
 obtain⟨j,hj,hjs⟩:=Option.map_eq_some_iff.1 (show(prog.info? 160).map (·.size)=some 2 by kernel_rfl)
 have HJ:=Hd hj
 have HJS:=Hd hjs
 clear hj hjs
 rcases hp with rfl | rfl
 ·have sh:w.shape? b=some (160,2):=by
   have:=HB.out
   unfold Blk at this
   unfold World.shape?
   rw[this]
   rfl
  have SH:=Hd sh
  clear sh
  go_enter func139,ntmps139
  go_wp2
  rw[Lib.run_to_unsafe w ⟨b,0,none⟩ underlying158 underlying286 HJ.out (by rw[HJS.out];decide) SH.out (Nat.zero_lt_succ 1)]
  simp only[Result.andThen]
  rw[Oper.upon_value]
  go_wp2
  rw[run_callFunc_extern func196 (by kernel_rfl) (by kernel_rfl) (by kernel_rfl) (e:=Extern.AbiNoEscape.same) (by kernel_rfl)]
  rw[Lib.run_noEscape]
  simp only[Result.andThen]
  rw[Oper.upon_value]
  go_wp2
  rw[Lib.run_from_unsafe w ⟨b,0,none⟩ underlying286 underlying158 HJ.out SH.out (by kernel_rfl)]
  simp only[Result.andThen]
  rw[Oper.upon_value]
  go_wp2
  go_end0
  exact⟨rfl,.inr rfl,by simpa using HS.out⟩
 ·go_enter func139,ntmps139
  go_wp2
  rw[Lib.run_neq_ptr_same w _ underlying158 HJ.out]
  go_wp2
  go_end0
  exact⟨rfl,.inl rfl,HB.out⟩
theorem Zzu {B b:Nat}{l s:List UInt8}{w:World}(h:IsB B b l w)(hl:l.length+s.length<=140737488355328)(hB:B<=w.heap.size):
  CA 75 #[.pointer (some ⟨b,0,none⟩),.string ⟨s.toArray⟩] w fun e w'=>(∃v,e=.returned v)/\IsB B b (l++s) w'/\Below B w w':=by
 obtain⟨i0,hi,hz0,hz1,hz2⟩:=info_parts Zbz
 obtain⟨hBb,p,v,hp,hb,hown⟩:=h
 have HI:=Hd hi
 have HZ0:=Hd hz0
 have HZ1:=Hd hz1
 have HZ2:=Hd hz2
 have HC:=Hd (Z1m hp hb)
 have HO:=Hd hown
 have hne:=Zao hown hb (by decide)
 have HN:=Hd hne
 clear hi hz0 hz1 hz2 hp hb hown hne
 go_enter func75,ntmps75
 go_wp2_with fail
 refine Mo HC ?_
 rintro e w1 ⟨rfl,hw1,hb1⟩
 have hbb1:Below B w w1:=by
  rcases hw1 with rfl | rfl
  ·exact Below.refl _ _
  ·exact(Below.refl B w).setCell (p:=⟨b,0,none⟩) hBb _
 have hown1:w1.ownsRow B 5 1 v l.length (bs l):=by
  rcases hw1 with rfl | rfl
  ·exact HO.out
  ·exact HO.out.kept (row:=some b) ⟨rfl,rfl,rfl,by simp[World.setCell],fun k _ hk=>Below.heap_setCell _ _ _ _ (fun e=>hk (by simp[e]))⟩ (.inr HN.out)
 have c1:=hb1.cell 1
 have hl1:=hb1.lt
 have HB1:=Hd hb1
 have HO1:=Hd hown1
 have HBB:=Hd hbb1
 clear hw1 hb1 hown1 hbb1
 have hsz:(ByteArray.mk s.toArray).size=s.length:=rfl
 go_wp2_with (at_builtin;refine Lib.wpList_append_own_string _ rfl _ _ 23 9 rfl B 5 i0 underlying23 underlying9 HI.out HZ0.out HZ1.out HZ2.out _ _ _ rfl HO1.out ⟨s.toArray⟩ rfl (by rw[hsz];unfold maxLen;omega) (by rw[hsz];omega) (Nat.le_trans hB HBB.out.size) ?_;intro v2 w2 hown2 hg2 _;have hb2:Blk w2 b 160 #[.pointer (some ⟨b,0,none⟩),v]:=(show w2.heap[b]? =_ from(hg2.block b HB1.out.lt (fun e=>HN.out e.symm)).trans HB1.out);have c1:=hb2.cell 1;have f1:=hb2.frozen 1;have hl2:=hb2.lt;have HB2:=Hd hb2;have HO2:=Hd hown2;have HG2:=Hd hg2;obtain⟨A2,cc2,rfl⟩:∃A2 cc2,v2=.slice A2 (l.length+(ByteArray.mk s.toArray).size) cc2:=(by rcases hown2.2 with⟨hv,h0⟩ | ⟨g,cap,cur,hv,_⟩;exact⟨none,0,by rw[hv,h0]⟩;exact⟨_,_,hv⟩);clear hb2 hown2 hg2)
 go_ret2
 have hsz2:(l++s).length=l.length+s.length:=List.length_append
 refine⟨⟨_,rfl⟩,⟨hBb,.pointer (some ⟨b,0,none⟩),.slice A2 (l.length+s.length) cc2,.inr rfl,?_,?_⟩,?_⟩
 ·have:=HB2.out.set_ 1 (.slice A2 (l.length+s.length) cc2)
  simpa using this
 ·have h9:w2.ownsRow B 5 1 (.slice A2 (l.length+s.length) cc2) (l++s).length (bs (l++s)):=by
   rw[hsz2,Za1]
   exact HO2.out
  have hne2:=Zao h9 HB2.out (by decide)
  exact h9.kept (row:=some b) ⟨rfl,rfl,rfl,by simp[World.setCell],fun k _ hk=>Below.heap_setCell _ _ _ _ (fun e=>hk (by simp[e]))⟩ (.inr hne2)
 ·exact(Zbl HBB.out HO1.out HG2.out (Nat.le_trans hB HBB.out.size)).setCell (p:=⟨b,1,none⟩) hBb _
theorem Zwg {B b:Nat}{l:List UInt8}{w:World}(h:IsB B b l w)(hB:B<=w.heap.size):
  CA 76 #[.pointer (some ⟨b,0,none⟩)] w fun e w'=>e=.returned (.string ⟨l.toArray⟩)/\Below B w w':=by
 obtain⟨h1,p,v,h2,h3,h4⟩:=h
 have hne:=Zao h4 h3 (by decide)
 have hb:Lib.BuilderAt 160 5 B b p (Lib.byteCells l) w:=⟨h1,v,h3,by rw[Lib.byteCells_length];exact h4,hne⟩
 exact Tryz.Builder_String_any B b l w (by rcases h2 with rfl | rfl;exact .inl hb;exact .inr hb) hB
def Zsd (f:Fld):List UInt8:=f.1++[58,32]++f.2++[13,10]
def Zbg :List Fld->List UInt8
 | []=> []
 | f::l=>Zsd f++Zbg l
theorem Zob (a b:List Fld):Zbg (a++b)=Zbg a++Zbg b:=by
 induction a with
 | nil=>rfl
 | cons f a ih=>rw[List.cons_append,Zbg,Zbg,ih,List.append_assoc]
theorem Zsc (l:List Fld){k:Nat}(h:k < l.length):Zbg (l.take (k+1))=Zbg (l.take k)++Zsd l[k]:=by
 rw[List.take_succ_eq_append_getElem h,Zob]
 simp[Zbg]
def Zyj (l:List Fld):Prop:=l.length<=40/\∀f∈l,f.1.length<=400/\f.2.length<=400
theorem Zp5 (f:Fld):(Zsd f).length=f.1.length+f.2.length+4:=by simp[Zsd];omega
theorem Zgx :∀(l:List Fld),(∀f∈l,f.1.length<=400/\f.2.length<=400)->(Zbg l).length<=804*l.length
 | [],_=>by simp[Zbg]
 | f::l,h=>by
  have h1:=Zgx l fun x hx=>h x (List.mem_cons_of_mem _ hx)
  have h2:=h f (List.mem_cons_self ..)
  rw[Zbg,List.length_append,Zp5,List.length_cons]
  omega
theorem line_cat (f1 f2:List UInt8):((ByteArray.mk f1.toArray++ByteArray.mk #[58,32])++ByteArray.mk f2.toArray)++ByteArray.mk #[13,10]=⟨(Zsd (f1,f2)).toArray⟩:=by
 have e1:(ByteArray.mk #[58,32])=⟨([58,32]:List UInt8).toArray⟩:=rfl
 have e2:(ByteArray.mk #[13,10])=⟨([13,10]:List UInt8).toArray⟩:=rfl
 rw[e1,e2,ByteArray.mk_append_mk,ByteArray.mk_append_mk,ByteArray.mk_append_mk]
 rfl
theorem Zp4 (l:List Fld)(hl:Zyj l)(A:Option Addr)(n c:Nat)(hn:n=l.length)(w:World)(hr:Zab w w.heap.size 2 A l.length (fvs l)):
  CA 27 #[.slice A n c] w fun e w'=>e=.returned (.string ⟨(Zbg l).toArray⟩)/\Below w.heap.size w w':=by
 subst hn
 have HR:=Hd hr
 have HS:=Hd hl
 have HL40:=hl.1
 have HN:=Hd (isB_new w)
 have HBN:=Hd (show Below w.heap.size w (w.alloc (.cells #[.pointer none,.slice none 0 0] 160))from(Below.refl _ _).alloc (Nat.le_refl _) _)
 clear hr hl
 go_enter func27,ntmps27
 go_wp2_with fail
 go_loopg [8] l.length (fun m i wr=>∃k:Nat,m+k=l.length/\i=.int .i64 (k:Int)/\Hid (IsB w.heap.size w.heap.size (Zbg (l.take k)) wr)/\Hid (Below w.heap.size w wr))
 case atStart=>exact⟨0,rfl,rfl,HN.out,HBN.out⟩
 case round=>
  clear HN HBN
  obtain⟨k,hk,rfl,HI,HB⟩:=hrel
  by_cases hlt:k < l.length
  ·obtain⟨b,off,hA,hbB,hcl⟩:=Zb4 (HR.out.below HB.out) (by omega)
   subst hA
   obtain⟨c0,c1⟩:=hcl k hlt
   have hlen:=Zgx (l.take k) fun f hf=>HS.out.2 f (List.mem_of_mem_take hf)
   have htk:(l.take k).length<=k:=by rw[List.length_take];omega
   have hsh:=HS.out.2 l[k] (List.getElem_mem hlt)
   have htl:=Zsc l hlt
   obtain⟨f,hfk⟩:=exl (l[k])
   rw[hfk]at c0 c1 hsh htl
   have hbw:=Nat.lt_of_lt_of_le hbB HB.out.size
   have hki:((k:Nat):Int) < ((l.length:Nat):Int):=by omega
   obtain⟨f1,f2⟩:=f
   simp only at c0 c1 hsh
   obtain⟨hs1,hs2⟩:=hsh
   have HTL:=Hd htl
   have HBA:=Hd (show Below w.heap.size w (wr.alloc (.cells #[.string ⟨f1.toArray⟩,.string ⟨f2.toArray⟩] 41))from HB.out.alloc HB.out.size _)
   have HWR:=Hd (Zzu (s:=Zsd (f1,f2)) (HI.out.alloc (.cells #[.string ⟨f1.toArray⟩,.string ⟨f2.toArray⟩] 41)) (by rw[Zp5];simp only;omega) HBA.out.size)
   clear hcl hbB hfk htl hlen htk HI
   go_wp2_with fail
   rw[line_cat]
   refine Mo HWR ?_
   rintro e w1 ⟨⟨v,rfl⟩,hI1,hb1⟩
   have HI1:=Hd hI1
   have HB1:=Hd (HBA.out.trans hb1)
   clear hI1 hb1
   go_wp2_with fail
   go_roundg (gk-1)
   case measure=>omega
   case rel=>exact⟨k+1,by omega,by go_num,by rw[HTL.out];exact HI1.out,HB1.out⟩
  ·have hkl:k=l.length:=by omega
   have HI2:=Hd (show IsB w.heap.size w.heap.size (Zbg l) wr by have h:=HI.out;rwa [hkl,List.take_length]at h)
   have hki:¬((k:Nat):Int) < ((l.length:Nat):Int):=by omega
   go_wp2_with fail
   refine(Zwg HI2.out HB.out.size).mono ?_
   rintro e w1 ⟨rfl,hb1⟩
   have HB1:=Hd (HB.out.trans hb1)
   clear hb1
   go_wp2
   go_ret
   exact⟨rfl,HB1.out⟩
theorem Zd5 (l:List UInt8)(c:UInt8):decide (0<=Lib.indexByte l c)=l.contains c:=by
 induction l with
 | nil=>rfl
 | cons b l ih=>
  have hg:=Lib.indexByte_ge l c
  unfold Lib.indexByte
  by_cases h:b=c
  ·subst h
   simp
  ·have h1:(b==c)=false:=beq_eq_false_iff_ne.2 h
   have h3:(c==b)=false:=beq_eq_false_iff_ne.2 fun e=>h e.symm
   rw[if_neg (by rw[h1];decide),List.contains_cons,h3,Bool.false_or,<-ih]
   by_cases h2:Lib.indexByte l c= -1
   ·rw[if_pos (by rw[h2];rfl),h2]
   ·rw[if_neg (by simpa using h2)]
    rw[Bool.eq_iff_iff,decide_eq_true_iff,decide_eq_true_iff]
    omega
theorem Zch (l:List UInt8)(c:UInt8)(w:World):
  CA 78 #[.string ⟨l.toArray⟩,.int .u8 ((c.toNat:Nat):Int)] w fun e w'=>e=.returned (.int .i64 (Lib.indexByte l c))/\w=w':=by
 refine(Tryz.strings_IndexByte ⟨l.toArray⟩ ((c.toNat:Nat):Int) w).mono ?_
 rintro e w' ⟨he,hw⟩
 refine⟨?_,hw.symm⟩
 have:(((c.toNat:Nat):Int).toNat).toUInt8=c:=by simp
 rw[this]at he
 exact he
theorem Zvl (c:UInt8)(w:World):CA 30 #[.int .u8 ((c.toNat:Nat):Int)] w fun e w'=>e=.returned (.bool (Zt5.contains c))/\w=w':=by
 have HI:=Hd (Zch Zt5 c w)
 have HE:=Hd (Zd5 Zt5 c)
 go_enter func30,ntmps30
 go_wp2_with fail
 refine Mo HI ?_
 rintro e w1 ⟨rfl,rfl⟩
 go_wp2
 go_ret
 exact⟨by rw[<-HE.out];rfl,rfl⟩
theorem Zse (c:UInt8)(w:World):CA 81 #[.int .u8 ((c.toNat:Nat):Int)] w fun e w'=>e=.returned (.bool (Zdp.contains c))/\w=w':=by
 have HI:=Hd (Zch Zdp c w)
 have HE:=Hd (Zd5 Zdp c)
 go_enter func81,ntmps81
 go_wp2_with fail
 refine Mo HI ?_
 rintro e w1 ⟨rfl,rfl⟩
 go_wp2
 go_ret
 exact⟨by rw[<-HE.out];rfl,rfl⟩
def Zxf (c:UInt8):Bool:=decide (32 < c.toNat) && decide (c.toNat<=126)
theorem Zo7 (c:UInt8)(w:World):CA 33 #[.int .u8 ((c.toNat:Nat):Int)] w fun e w'=>e=.returned (.bool (Zxf c))/\w=w':=by
 obtain⟨n,hn⟩:=exl (c.toNat)
 have hs:Zxf c=(decide (32 < n) && decide (n<=126)):=by rw[<-hn];rfl
 have HS:=Hd hs
 rw[hn]
 clear hs hn
 by_cases h1:32 < n
 ·have i1:(32:Int) < ((n:Nat):Int):=by omega
  have i2:=decide_eq_true i1
  have e1:=decide_eq_true h1
  by_cases h2:n<=126
  ·have i3:((n:Nat):Int)<=126:=by omega
   have i4:=decide_eq_true i3
   have HX:=Hd (show Zxf c=true by rw[HS.out,e1,decide_eq_true h2];rfl)
   go_enter func33,ntmps33
   go_wp2
   go_ret
   exact⟨by rw[HX.out];rfl,rfl⟩
  ·have i3:¬((n:Nat):Int)<=126:=by omega
   have i4:=decide_eq_false i3
   have HX:=Hd (show Zxf c=false by rw[HS.out,decide_eq_false h2,Bool.and_false])
   go_enter func33,ntmps33
   go_wp2
   go_ret
   exact⟨by rw[HX.out];rfl,rfl⟩
 ·have i1:¬(32:Int) < ((n:Nat):Int):=by omega
  have i2:=decide_eq_false i1
  have HX:=Hd (show Zxf c=false by rw[HS.out,decide_eq_false h1,Bool.false_and])
  go_enter func33,ntmps33
  go_wp2
  go_ret
  exact⟨by rw[HX.out];rfl,rfl⟩
theorem Zv1 (c:UInt8)(w:World):CA 80 #[.int .u8 ((c.toNat:Nat):Int)] w fun e w'=>e=.returned (.bool (Zf7 c))/\w=w':=by
 obtain⟨n,hn⟩:=exl (c.toNat)
 have hs:Zf7 c=(decide (32<=n) && decide (n<=126)):=by rw[<-hn];rfl
 have HS:=Hd hs
 rw[hn]
 clear hs hn
 by_cases h1:32<=n
 ·have i1:(32:Int)<=((n:Nat):Int):=by omega
  have i2:=decide_eq_true i1
  have e1:=decide_eq_true h1
  by_cases h2:n<=126
  ·have i3:((n:Nat):Int)<=126:=by omega
   have i4:=decide_eq_true i3
   have HX:=Hd (show Zf7 c=true by rw[HS.out,e1,decide_eq_true h2];rfl)
   go_enter func80,ntmps80
   go_wp2
   go_ret
   exact⟨by rw[HX.out];rfl,rfl⟩
  ·have i3:¬((n:Nat):Int)<=126:=by omega
   have i4:=decide_eq_false i3
   have HX:=Hd (show Zf7 c=false by rw[HS.out,decide_eq_false h2,Bool.and_false])
   go_enter func80,ntmps80
   go_wp2
   go_ret
   exact⟨by rw[HX.out];rfl,rfl⟩
 ·have i1:¬(32:Int)<=((n:Nat):Int):=by omega
  have i2:=decide_eq_false i1
  have HX:=Hd (show Zf7 c=false by rw[HS.out,decide_eq_false h1,Bool.false_and])
  go_enter func80,ntmps80
  go_wp2
  go_ret
  exact⟨by rw[HX.out];rfl,rfl⟩
theorem Zgo (l s:List UInt8)(at_:Nat)(hl:l.length<=140737488355328)(hat:at_+s.length<=l.length)(hs:∀k (h:k < s.length),l[at_+k]? =some s[k])(A:Option Addr)(n c:Nat)(hn:n=l.length)(w:World)(hr:Zab w w.heap.size 1 A l.length (bs l)):
  CA 79 #[.slice A n c,.int .i64 ((at_:Nat):Int),.string ⟨s.toArray⟩] w fun e w'=>e=.returned (.tuple #[.int .i64 ((at_+s.length:Nat):Int),.nilIface])/\Below w.heap.size w w':=by
 subst hn
 have HS:=Hd hs
 have HR:=Hd hr
 have hsz:(ByteArray.mk s.toArray).size=s.length:=rfl
 clear hs hr
 go_enter func79,ntmps79
 go_wp2_with fail
 go_loopg [11] s.length (fun m i wr=>∃k:Nat,m+k=s.length/\i=.int .i64 (k:Int)/\Hid (Below w.heap.size w wr))
 case atStart=>exact⟨0,rfl,rfl,Below.refl _ _⟩
 case round=>
  obtain⟨k,hk,rfl,HB⟩:=hrel
  by_cases hlt:k < s.length
  ·have hki:((k:Nat):Int) < ((s.length:Nat):Int):=by omega
   obtain⟨q,hq⟩:=exl (at_+k)
   have hw1:wrap64 (((at_:Nat):Int)+((k:Nat):Int))=((q:Nat):Int):=by unfold wrap64;omega
   have hw2:((at_:Nat):Int)+((k:Nat):Int)=((q:Nat):Int):=by omega
   have hat2:q < l.length:=by omega
   have hge:¬((l.length:Nat):Int)<=((q:Nat):Int):=by omega
   have hge2:=decide_eq_false hge
   obtain⟨b,off,hA,hbB,hcl⟩:=Zbm (HR.out.below HB.out) hat2
   have hx:l[q]=s[k]:=by
    have h:=HS.out k hlt
    rw[hq]at h
    rw[List.getElem?_eq_getElem hat2]at h
    exact Option.some.inj h
   rw[hx]at hcl
   have hsk:(ByteArray.mk s.toArray)[k]'(by rw[hsz];exact hlt)=s[k]:=by
    have h:=Lib.getElem_mk s k (by rw[hsz];exact hlt)
    rw[List.getElem?_eq_getElem hlt]at h
    exact(Option.some.inj h).symm
   have hbw:=Nat.lt_of_lt_of_le hbB HB.out.size
   subst hA
   obtain⟨y,hy⟩:=exl (s[k])
   rw[hy]at hcl hsk
   have HQE:=Hd hq
   clear hx hy hq
   go_wp2_with fail
   go_region
   go_wp2_with fail
   go_roundg (gk-1)
   case measure=>omega
   case rel=>exact⟨k+1,by omega,by go_num,HB.out.drew⟩
  ·have hkl:k=s.length:=by omega
   subst hkl
   have hki:¬((s.length:Nat):Int) < ((s.length:Nat):Int):=by omega
   obtain⟨q,hq⟩:=exl (at_+s.length)
   have hw1:wrap64 (((at_:Nat):Int)+((s.length:Nat):Int))=((q:Nat):Int):=by unfold wrap64;omega
   have hw2:((at_:Nat):Int)+((s.length:Nat):Int)=((q:Nat):Int):=by omega
   have HQE:=Hd hq
   clear hq
   go_wp2
   go_ret2
   exact⟨rfl,HB.out⟩
end
end Go.Proofs.YtbgnggkgmeagkaaGreatDoor
