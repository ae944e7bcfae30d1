/-
  A part of the proof of TopAlike: each theorem states its own conditions.
-/
import Derived.Test.YtbgnggkgmeagkaaGreatDoorMTopAlike02
import Derived.Lib.AppendZeros
import Derived.Lib.SliceRun
import Derived.Deep.RegionHeld3
import Derived.Deep.DrawnRows
import Derived.Deep.RegionLaw
import Derived.Deep.LoopGhost
set_option linter.unusedSimpArgs false
set_option linter.unusedVariables false
set_option maxRecDepth 100000
set_option maxHeartbeats 16000000
namespace Go.Proofs.YtbgnggkgmeagkaaGreatDoor
open Go.Proofs.Tryz
section
open Go.RowKit
theorem Zsk (x:Nat)(y:Nat)(hx:x<=281474976710656)(hy:y < 256):bits .or .i64 ((x:Int)*256) (y:Int)=(x:Int)*256+y:=by
 have e:((x:Int)*256)=((x*256:Nat):Int):=by simp
 rw[e]
 have h1:(BitVec.ofInt 64 ((x*256:Nat):Int)).toNat=x*256:=by
  rw[BitVec.ofInt_natCast,BitVec.toNat_ofNat];exact Nat.mod_eq_of_lt (by omega)
 have h2:(BitVec.ofInt 64 ((y:Nat):Int)).toNat=y:=by
  rw[BitVec.ofInt_natCast,BitVec.toNat_ofNat];exact Nat.mod_eq_of_lt (by omega)
 show IntKind.i64.wrap ((BitVec.ofInt 64 ((x*256:Nat):Int) ||| BitVec.ofInt 64 ((y:Nat):Int)).toNat:Int)=_
 rw[BitVec.toNat_or,h1,h2]
 have h3:x*256 ||| y=x*256+y:=by
  have:=Nat.shiftLeft_add_eq_or_of_lt (i:=8) (b:=y) (by omega) x
  rw[show x*256=x <<< 8 from by rw[Nat.shiftLeft_eq]]
  exact this.symm
 rw[h3,IntKind.wrap_i64]
 omega
theorem Zdo (l:List UInt8)(s:Int)(A:Option Addr)(n c:Nat)(hn:n=l.length)(hcap:l.length<=c)(hm:l.length<=maxLen)(B:Nat)(w:World)(hr:Zab w B 1 A l.length (bs l)):
  CA 212 #[.slice A n c,.int .i64 s] w fun e w'=>e=.returned (.tuple #[.int .i64 (Zfr l s:Nat),Zjq (Zdz l s)])/\w=w':=by
 subst hn
 unfold maxLen at hm
 by_cases h1:s < 1
 ·have e1:Zdz l s=1:=by simp[Zdz,h1]
  have e2:Zfr l s=0:=by simp[Zfr,e1]
  rw[e1,e2,Zbe (by decide)]
  clear e1 e2 hr
  go_enter func212,ntmps212
  go_wp2
  go_ret2
  exact⟨rfl,rfl⟩
 by_cases h4:4 < s
 ·have e1:Zdz l s=1:=by simp[Zdz,h4]
  have e2:Zfr l s=0:=by simp[Zfr,e1]
  rw[e1,e2,Zbe (by decide)]
  clear e1 e2 hr
  go_enter func212,ntmps212
  go_wp2
  go_ret2
  exact⟨rfl,rfl⟩
 obtain⟨t,rfl⟩:=Int.eq_ofNat_of_zero_le (show 0<=s by omega)
 by_cases h8:l.length < t
 ·have e1:Zdz l t=8:=by simp[Zdz,h1,h4,h8]
  have e2:Zfr l t=0:=by simp[Zfr,e1]
  rw[e1,e2,Zbe (by decide)]
  clear e1 e2 hr
  go_enter func212,ntmps212
  go_wp2
  go_ret2
  exact⟨rfl,rfl⟩
 have htc:t<=c:=by omega
 have HO:Hid (if 2147483647 < Zaz (l.take t)then(Zdz l t=10/\Zfr l t=0)else(Zdz l t=0/\Zfr l t=Zaz (l.take t))):=by
  show if _ then _ else _
  split <;> rename_i h10
  ·have e1:Zdz l t=10:=by simp[Zdz,h1,h4,h8,h10]
   exact⟨e1,by simp[Zfr,e1]⟩
  ·have e1:Zdz l t=0:=by simp[Zdz,h1,h4,h8,h10]
   exact⟨e1,by simp[Zfr,e1]⟩
 generalize Zdz l t=re at*
 generalize Zfr l t=rn at*
 have ht1:decide ((t:Int) < 1)=false:=by simp;omega
 have ht4:decide ((4:Int) < (t:Int))=false:=by simp;omega
 have hlt:decide (l.length < t)=false:=by simp;omega
 go_enter func212,ntmps212
 go_wp2
 go_loop [6,8,27] (fun x _ i=>∃k:Nat,k<=t/\i=.int .i64 k/\x=.int .i64 (Zaz (l.take k):Nat)) (fun _ _ i=>t-(intOf i).toNat)
 case atStart=>exact⟨0,Nat.zero_le _,rfl,rfl⟩
 case round=>
  obtain⟨k,hk,rfl,rfl⟩:=hrel
  by_cases hlt:k < t
  ·obtain⟨b,off,rfl,_,hc⟩:=Zbm hr (show k < l.length by omega)
   have hv:=Zlt l k (by omega)
   have h3:Zaz (l.take k)<=281474976710656:=by
    have:=Zf0 l k
    have h5:(256:Nat) ^ k<=256 ^ 6:=Nat.pow_le_pow_right (by omega) (by omega)
    omega
   have hx:=l[k].toNat_lt
   have hor:=Zsk _ _ h3 hx
   have HV:=Hd hv
   clear hv hr
   generalize l[k].toNat=y at*
   generalize hg:Zaz (l.take k)=x at*
   clear hg
   go_wp2
   go_round
   case rel=>exact⟨k+1,by omega,by go_num,by rw[HV.out];go_num⟩
   case measure=>simp[intOf];omega
  ·have hkt:k=t:=by omega
   subst hkt
   have h3:=Zf0 l k
   have h4':(most k < Zaz (l.take k))↔2147483647 < Zaz (l.take k):=by
    unfold most
    rcases(by omega:k=1∨k=2∨k=3∨k=4)with rfl | rfl | rfl | rfl <;> simp at h3⊢ <;> omega
   clear h3 hr
   by_cases h10:2147483647 < Zaz (l.take k)
   ·have hO:=HO.out
    rw[if_pos h10]at hO
    obtain⟨rfl,rfl⟩:=hO
    have hd:decide (most k < Zaz (l.take k))=true:=by simpa using h4'.2 h10
    clear h4' h10 HO
    go_wp2_with (go_at_call 210;refine(Zdc _ (by omega) (by omega) _).mono ?_;rintro e w' ⟨rfl,rfl⟩)
    go_ret2
    exact⟨rfl,rfl⟩
   ·have hO:=HO.out
    rw[if_neg h10]at hO
    obtain⟨rfl,rfl⟩:=hO
    have hd:decide (most k < Zaz (l.take k))=false:=by simpa using(fun h=>h10 (h4'.1 h))
    clear h4' h10 HO
    go_wp2_with (go_at_call 210;refine(Zdc _ (by omega) (by omega) _).mono ?_;rintro e w' ⟨rfl,rfl⟩)
    go_ret2
    exact⟨rfl,rfl⟩
def Ztk (n s:Int):Prop:=1<=s/\s<=4/\0<=n/\n<=(most s.toNat:Nat)
instance (n s:Int):Decidable (Ztk n s):=by unfold Ztk;infer_instance
def bigE (n s:Int):Nat:=if Ztk n s then 0 else 1
def bigL (n s:Int):List UInt8:=if Ztk n s then Zar s.toNat n.toNat else []
theorem Ztt (n s:Int)(w:World):
  CA 156 #[.int .i64 n,.int .i64 s] w fun e w'=>∃A c,e=.returned (.tuple #[.slice A (bigL n s).length c,Zjq (bigE n s)])/\Gave w w' (bigL n s) A c:=by
 by_cases h:Ztk n s
 ·have e1:bigE n s=0:=by simp[bigE,h]
  have e2:bigL n s=Zar s.toNat n.toNat:=by simp[bigL,h]
  rw[e1,e2]
  refine(Zxo n s h.1 h.2.1 h.2.2.1 h.2.2.2 w).mono ?_
  rintro e w' ⟨v,he,hown,hb⟩
  obtain⟨A,c,rfl,hg⟩:=Zdg (l:=Zar s.toNat n.toNat) (by rw[Zbj];exact hown) hb
  exact⟨A,c,he,hg⟩
 ·have e1:bigE n s=1:=by simp[bigE,h]
  have e2:bigL n s=[]:=by simp[bigL,h]
  rw[e1,e2]
  refine(wbig_bad n s h w).mono ?_
  rintro e w' ⟨he,rfl⟩
  exact⟨none,0,he,gave_nil w⟩
structure Zrh where
 A:Option Addr
 n:Nat
 c:Nat
 xs:List Value
def Zcm (ps:List Zrh):Nat:=(ps.map Zrh.n).sum
def Zql (ps:List Zrh):List Value:=ps.flatMap Zrh.xs
theorem Zji (a b:List Zrh):Zcm (a++b)=Zcm a+Zcm b:=by simp[Zcm]
theorem Zc1 (ps:List Zrh)(k:Nat)(h:k < ps.length):Zcm (ps.take (k+1))=Zcm (ps.take k)+ps[k].n:=by
 rw[List.take_succ_eq_append_getElem h,Zji]
 simp[Zcm]
theorem Zcp (ps:List Zrh)(k:Nat):Zcm (ps.take k)<=Zcm ps:=by
 have h:=Zji (ps.take k) (ps.drop k)
 rw[List.take_append_drop]at h
 omega
theorem Zst (a b:List Zrh):Zql (a++b)=Zql a++Zql b:=by simp[Zql]
theorem Zhm (ps:List Zrh)(k:Nat)(h:k < ps.length):Zql (ps.take (k+1))=Zql (ps.take k)++ps[k].xs:=by
 rw[List.take_succ_eq_append_getElem h,Zst]
 congr 1
 simp[Zql]
def Ze1 (w:World)(size pb:Nat)(ps:List Zrh):Prop:=
 ∀k (hk:k < ps.length),w.cell? ⟨pb,k,none⟩=some (.slice ps[k].A ps[k].n ps[k].c)/\Zab w w.heap.size size ps[k].A ps[k].n ps[k].xs/\∀u∈ps[k].xs,u.oneCell'=true
theorem Zlp {w w1:World}(hb:Below w.heap.size w w1){p:Addr}{v:Value}(h:w.cell? p=some v):w1.cell? p=some v:=(hb.cell (World.block_lt_of_cell? w p h)).trans h
theorem Zce (z:Array Value)(n:Nat):(Builtin.zeroCells z n).size=n*z.size:=by
 unfold Builtin.zeroCells
 simp
theorem Zz7 (n:Nat)(hn:n*1<=140737488355328)(w:World):
  CA 211 #[.slice none 0 0,.int .i64 (n:Int)] w fun e w'=>∃v,e=.returned v/\w'.ownsRow w.heap.size 5 1 v 0 []/\Below w.heap.size w w':=by
 rcases Nat.eq_zero_or_pos n with rfl | h0
 ·go_enter func211,ntmps211
  go_wp2
  go_ret
  exact⟨_,rfl,World.ownsRow_nil _ _ _ _,Below.refl _ _⟩
 ·obtain⟨i0,hi,hz0,hz1,hz2⟩:=info_parts Zbz
  have hneg:¬((n:Int) < 0):=by omega
  have hpos:(0:Int) < (n:Int):=by omega
  have hG:=grownCap_ge w n 0 5
  have hG63:=grownCap_le_maxLen w n 0 5 (by unfold maxLen;omega)
  have hrun:=fun ty=>Lib.run_append_nil_zeros (P:=prog) w 23 3 ty 5 i0 (.int .u8 0:Value) .i64 .i64 underlying23 underlying3 hi hz0 n h0 (by omega) (by omega) (by rw[hz2];omega)
  obtain⟨G,hGe⟩:=exl (grownCap w n 0 5)
  rw[hGe]at hG hG63 hrun
  obtain⟨CS,hCS⟩:=exl (Builtin.zeroCells (.int .u8 0:Value).cells n++Builtin.zeroCells (.int .u8 0:Value).cells (G-n))
  have hsz:CS.size=G*1:=by
   rw[<-hCS,Array.size_append,Zce,Zce]
   have:(.int .u8 0:Value).cells.size=1:=by rfl
   rw[this,<-Nat.add_mul]
   congr 1
   omega
  rw[hCS]at hrun
  have HSZ:=Hd hsz
  have hGI:(0:Int)<=(G:Int):=by omega
  unfold maxLen at hG63
  clear hi hz0 hz1 hz2 hGe hCS hsz
  go_enter func211,ntmps211
  go_wp2_with (at_builtin;refine Lib.wpList_append_run _ rfl _ _ _ _ rfl _ _ rfl rfl _ _ (hrun _) ?_)
  go_ret
  refine⟨_,rfl,⟨rfl,.inr ⟨w.heap.size,G,CS,rfl,Nat.le_refl _,heap_alloc_new _ _,by omega,by unfold maxLen;omega,HSZ.out,by simp⟩⟩,((Below.refl _ _).drew).alloc (Nat.le_refl _) _⟩
theorem Zfx (ps:List Zrh)(pb:Nat)(w:World)(hps:Ze1 w 1 pb ps)(hm:Zcm ps*1<=140737488355328)(hl:ps.length<=1000000):
  CA 158 #[.slice (some ⟨pb,0,none⟩) ps.length ps.length] w fun e w'=>∃v,e=.returned v/\w'.ownsRow w.heap.size 5 1 v (Zcm ps) (Zql ps)/\Below w.heap.size w w':=by
 obtain⟨i0,hi,hz0,hz1,hz2⟩:=info_parts Zbz
 have HI:=Hd hi
 have HZ0:=Hd hz0
 have HZ1:=Hd hz1
 have HZ2:=Hd hz2
 have HP:=Hd hps
 clear hi hz0 hz1 hz2 hps
 go_enter func158,ntmps158
 go_wp2
 go_loop [3,11] (fun t i=>∃k:Nat,k<=ps.length/\i=.int .i64 (k:Int)/\t=.int .i64 ((Zcm (ps.take k):Nat):Int)) (fun _ i=>ps.length-(intOf i).toNat)
 case atStart=>exact⟨0,Nat.zero_le _,rfl,rfl⟩
 case round=>
  obtain⟨k,hk,rfl,rfl⟩:=hrel
  have hle:=Zcp ps k
  have hb:Zcm (ps.take k)<=140737488355328:=by omega
  by_cases hlt:k < ps.length
  ·have hsn:=Zc1 ps k hlt
   have hle2:=Zcp ps (k+1)
   obtain⟨c0,_⟩:=HP.out k hlt
   have HS:=Hd hsn
   have hn:ps[k].n<=140737488355328:=by omega
   clear hsn
   generalize ps[k].n=n at*
   generalize ps[k].A=A at*
   generalize ps[k].c=c at*
   go_wp2
   go_round
   case rel=>exact⟨k+1,by omega,by go_num,by rw[HS.out];go_num⟩
   case measure=>simp[intOf];omega
  ·have hke:ps.take k=ps:=List.take_of_length_le (by omega)
   rw[hke]
   clear hke
   go_wp2_with (go_at_call 211;refine(Zz7 _ (by omega) _).mono ?_;rintro e w1 ⟨v,rfl,hown,hb1⟩)
   go_loopw [6,27] (fun v i wr=>∃k:Nat,k<=ps.length/\i=.int .i64 (k:Int)/\Hid (wr.ownsRow w.heap.size 5 1 v (Zcm (ps.take k)) (Zql (ps.take k))/\Below w.heap.size w wr)) (fun _ i _=>ps.length-(intOf i).toNat)
   case atStart=>exact⟨0,Nat.zero_le _,rfl,hown,hb1⟩
   case round=>
    obtain⟨k,hk,rfl,HR⟩:=hrel
    clear hown hb1
    by_cases hlt:k < ps.length
    ·obtain⟨c0,hr⟩:=HP.out k hlt
     have hsn:=Zc1 ps k hlt
     have hfl:=Zhm ps k hlt
     have hle2:=Zcp ps (k+1)
     have hone:=(HP.out k hlt).2.2
     obtain⟨ho,hbw⟩:=HR.out
     have c1:=Zlp hbw c0
     have hr2:=hr.1.below hbw
     have HS:=Hd hsn
     have HF:=Hd hfl
     have HO:=Hd ho
     have hsum:Zcm (ps.take k)+ps[k].n<=Zcm ps:=by omega
     have hbs:=hbw.size
     have hby:(Zcm (ps.take k)+ps[k].n)*1<=Zcm ps*1:=Nat.mul_le_mul_right _ hsum
     clear hsn hfl ho hr
     generalize ps[k].n=n at*
     generalize ps[k].A=A at*
     generalize ps[k].c=c at*
     generalize ps[k].xs=xs at*
     clear c0
     go_wp2_with (at_builtin;refine Zah _ rfl _ _ 23 rfl w.heap.size 5 i0 (.int .u8 0:Value) 1 1 underlying23 HI.out HZ0.out HZ1.out HZ2.out rfl (by decide) _ _ _ rfl HO.out w.heap.size A n c xs rfl hr2 hone (by unfold maxLen;omega) (by omega) hbs ?_;intro v2 w2 hown2 hg2 _)
     go_roundw
     case rel=>exact⟨k+1,by omega,by go_num,by rw[HS.out,HF.out];exact hown2,Zbl hbw HO.out hg2 hbs⟩
     case measure=>simp[intOf];omega
    ·have hke:ps.take k=ps:=List.take_of_length_le (by omega)
     rw[hke]at HR
     clear hke
     go_wp2
     go_ret
     exact⟨_,rfl,HR.out.1,HR.out.2⟩
def frV (f:Frm)(A:Option Addr)(c:Nat):Value:=.agg #[.int .i64 f.K,.int .i64 f.F,.int .i64 f.S,.slice A f.body.length c]
theorem Zzh (n:Int)(w:World):
  CA 157 #[.int .i64 n] w fun e w'=>e=.returned (.bool (decide (0<=n/\n<=255)))/\w=w':=by
 by_cases h0:0<=n
 ·by_cases h:n<=255
  ·have e:decide (0<=n/\n<=255)=true:=by simp[h0,h]
   rw[e]
   clear e
   go_enter func157,ntmps157
   go_wp2
   go_ret
   exact⟨by simp[h],rfl⟩
  ·have e:decide (0<=n/\n<=255)=false:=by simp[h]
   rw[e]
   clear e
   have h2:decide (n<=255)=false:=by simp[h]
   go_enter func157,ntmps157
   go_wp2
   go_ret
   exact⟨by simp[h],rfl⟩
 ·have e:decide (0<=n/\n<=255)=false:=by simp[h0]
  rw[e]
  clear e
  go_enter func157,ntmps157
  go_wp2
  go_ret
  exact⟨rfl,rfl⟩
theorem Z07 (w:World)(c:Nat)(hc:c=0):
  CA 46 #[.slice none 0 c] w fun e w'=>e=.returned (.slice none 0 0)/\w=w':=by
 subst hc
 have q:=Lib.run_eql_slice_nil (P:=prog) w 23 5 none 0 0 0 0 underlying23
 go_enter func46,ntmps46
 go_wp2
 go_ret
 exact⟨rfl,rfl⟩
theorem Zw6 (a:Addr)(l:List UInt8)(n c:Nat)(hn:n=l.length)(hm:l.length<=140737488355328)(w:World)(hr:Zab w w.heap.size 1 (some a) l.length (bs l)):
  CA 46 #[.slice (some a) n c] w fun e w'=>∃v,e=.returned v/\w'.ownsRow w.heap.size 5 1 v l.length (bs l)/\Below w.heap.size w w':=by
 subst hn
 have ho:=Zhv w #[] 5 [] 0 rfl rfl (by decide)
 have hb:=(Below.refl w.heap.size w).alloc (Nat.le_refl _) (.cells #[] 5)
 have HR:=Hd (hr.below hb)
 have HO:=Hd ho
 have HB:=Hd hb
 clear hr ho hb
 have q:=Lib.run_eql_slice_nil (P:=prog) w 23 5 (some a) l.length c 0 0 underlying23
 go_enter func46,ntmps46
 go_wp2_with (at_builtin;refine Zhr rfl _ _ rfl w.heap.size _ _ _ rfl HO.out _ _ _ _ (bs l) rfl HR.out (Zit l) (by omega) (by simp) ?_;intro v w2 hown2 hb2)
 go_ret
 rw[Nat.zero_add,List.nil_append]at hown2
 exact⟨_,rfl,hown2,HB.out.trans hb2⟩
theorem Zcd (A:Option Addr)(l:List UInt8)(n c:Nat)(hn:n=l.length)(hc:A=none->c=0)(hm:l.length<=140737488355328)(w:World)(hr:Zab w w.heap.size 1 A l.length (bs l)):
  CA 46 #[.slice A n c] w fun e w'=>∃A' c',e=.returned (.slice A' l.length c')/\w'.ownsRow w.heap.size 5 1 (.slice A' l.length c') l.length (bs l)/\Below w.heap.size w w':=by
 cases A with
 | none=>
  have h0:l.length=0:=by
   rcases Nat.eq_zero_or_pos l.length with h | h
   ·exact h
   ·obtain⟨ad,e,_⟩:=hr.2 h
    cases e
  have hl:l=[]:=List.eq_nil_of_length_eq_zero h0
  subst hl
  subst hn
  refine(Z07 w c (hc rfl)).mono ?_
  rintro e w' ⟨rfl,rfl⟩
  exact⟨none,0,rfl,World.ownsRow_nil _ _ _ _,Below.refl _ _⟩
 | some a=>
  refine(Zw6 a l n c hn hm w hr).mono ?_
  rintro e w' ⟨v,rfl,hown,hb⟩
  obtain⟨A',c',rfl,hg⟩:=Zdg hown hb
  exact⟨A',c',rfl,hown,hb⟩
theorem Z1i {x:Int}(h0:0<=x)(h:x<=255):bs [UInt8.ofNat x.toNat]=[.int .u8 x]:=by
 simp only[bs,List.map_cons,List.map_nil,UInt8.toNat_ofNat']
 have:((x.toNat % 2 ^ 8:Nat):Int)=x:=by omega
 rw[this]
theorem wrap_u8 {x:Int}(h0:0<=x)(h:x<=255):IntKind.u8.wrap x=x:=by
 have:x % 256=x:=Int.emod_eq_of_lt h0 (by omega)
 simp[IntKind.wrap,IntKind.bits,IntKind.signed]
 omega
def Zfw (f:Frm)(A1:Option Addr)(c1:Nat)(x:Nat)(A2:Option Addr)(c2:Nat)(A:Option Addr)(c:Nat):List Zrh:=
 [⟨A1,3,c1,bs (Zar 3 f.body.length)⟩,⟨some ⟨x,0,none⟩,2,2,[.int .u8 f.K,.int .u8 f.F]⟩,⟨A2,4,c2,bs (Zar 4 f.S.toNat)⟩,⟨A,f.body.length,c,bs f.body⟩]
theorem Zqi {f:Frm}(h:Zeq f=0)(A1:Option Addr)(c1:Nat)(x:Nat)(A2:Option Addr)(c2:Nat)(A:Option Addr)(c:Nat):
  Zcm (Zfw f A1 c1 x A2 c2 A c)=(Zbh f).length/\Zql (Zfw f A1 c1 x A2 c2 A c)=bs (Zbh f):=by
 obtain⟨⟨k0,k1,f0,f1,_⟩,_⟩:=Zgm h
 rw[Zbu h,Zoi h]
 constructor
 ·simp[Zcm,Zfw]
  omega
 ·have e1:=Z1i k0 k1
  have e2:=Z1i f0 f1
  simp only[Zql,Zfw,List.flatMap_cons,List.flatMap_nil,List.append_nil]
  unfold Zqh
  rw[Za1,Za1,Za1,List.append_assoc,List.append_assoc]
  rw[show bs [UInt8.ofNat f.K.toNat,UInt8.ofNat f.F.toNat]=[.int .u8 f.K,.int .u8 f.F]by
   have:bs [UInt8.ofNat f.K.toNat,UInt8.ofNat f.F.toNat]=bs [UInt8.ofNat f.K.toNat]++bs [UInt8.ofNat f.F.toNat]:=rfl
   rw[this,e1,e2]
   rfl]
theorem Zwv {W:World}{f:Frm}{A1:Option Addr}{c1 x:Nat}{A2:Option Addr}{c2:Nat}{A:Option Addr}{c pb:Nat}
  (hp:Blk W pb 23 #[.slice A1 3 c1,.slice (some ⟨x,0,none⟩) 2 2,.slice A2 4 c2,.slice A f.body.length c]) (h1:Zab W W.heap.size 1 A1 3 (bs (Zar 3 f.body.length)))
  (h2:Blk W x 5 #[.int .u8 f.K,.int .u8 f.F]) (h3:Zab W W.heap.size 1 A2 4 (bs (Zar 4 f.S.toNat))) (h4:Zab W W.heap.size 1 A f.body.length (bs f.body)):
  Ze1 W 1 pb (Zfw f A1 c1 x A2 c2 A c):=by
 intro k hk
 rcases k with _ | _ | _ | _ | k
 ·exact⟨hp.cell 0,h1,Zit _⟩
 ·refine⟨hp.cell 1,⟨rfl,fun _=>⟨_,rfl,h2.lt,fun j u hu=> ?_⟩⟩,?_⟩
  ·rw[Addr.add_lit]
   rcases j with _ | _ | j
   ·rw[<-hu];exact h2.cell 0
   ·rw[<-hu];exact h2.cell 1
   ·simp[Zfw]at hu
  ·intro u hu
   simp[Zfw]at hu
   rcases hu with rfl | rfl <;> rfl
 ·exact⟨hp.cell 2,h3,Zit _⟩
 ·exact⟨hp.cell 3,h4,Zit _⟩
 ·exfalso
  simp[Zfw]at hk
  omega
theorem Zdk {w:World}{B B' size n:Nat}{e:TypeId}{v:Value}{xs:List Value}(h:w.ownsRow B e size v n xs)(hB:B'<=B):w.ownsRow B' e size v n xs:=by
 refine⟨h.1,?_⟩
 rcases h.2 with h0 | ⟨g,cap,cur,rfl,hb,hr⟩
 ·exact .inl h0
 ·exact .inr ⟨g,cap,cur,rfl,Nat.le_trans hB hb,hr⟩
theorem Zu0 (f:Frm)(A:Option Addr)(c:Nat)(hE:Zeq f=0)(w:World)(hr:Zab w w.heap.size 1 A f.body.length (bs f.body)):
  CA 104 #[frV f A c] w fun e w'=>∃A' c',e=.returned (.tuple #[.slice A' (Zbh f).length c',Zjq (Zeq f)])/\Gave w w' (Zbh f) A' c'/\w'.ownsRow w.heap.size 5 1 (.slice A' (Zbh f).length c') (Zbh f).length (bs (Zbh f)):=by
 obtain⟨⟨k0,k1,f0,f1,s0,s1⟩,hm⟩:=Zgm hE
 have hb0:=(Below.refl w.heap.size w).alloc (Nat.le_refl _) (.cells #[.int .i64 f.K,.int .i64 f.F,.int .i64 f.S,.slice A f.body.length c] 134)
 have hB0:Blk (w.alloc (.cells #[.int .i64 f.K,.int .i64 f.F,.int .i64 f.S,.slice A f.body.length c] 134)) w.heap.size 134 #[.int .i64 f.K,.int .i64 f.F,.int .i64 f.S,.slice A f.body.length c]:=Blk.new w _ _
 have HB0:=Hd hB0
 have HBB:=Hd hb0
 have HR:=Hd hr
 have hb1:Ztk f.S 4:=⟨by omega,by omega,s0,by simpa [most]using s1⟩
 have hb2:Ztk (f.body.length:Nat) 3:=⟨by omega,by omega,by omega,by simp[most];omega⟩
 have e1:bigL f.S 4=Zar 4 f.S.toNat:=by rw[bigL,if_pos hb1];rfl
 have e2:bigL (f.body.length:Nat) 3=Zar 3 f.body.length:=by rw[bigL,if_pos hb2];rfl
 have HE1:=Hd (show Zjq (bigE f.S 4)=.nilIface by rw[bigE,if_pos hb1,Zal])
 have HE2:=Hd (show Zjq (bigE (f.body.length:Nat) 3)=.nilIface by rw[bigE,if_pos hb2,Zal])
 have hk:decide (0<=f.K/\f.K<=255)=true:=decide_eq_true ⟨k0,k1⟩
 have hf:decide (0<=f.F/\f.F<=255)=true:=decide_eq_true ⟨f0,f1⟩
 have hkw:=wrap_u8 k0 k1
 have hfw:=wrap_u8 f0 f1
 have l4:(Zar 4 f.S.toNat).length=4:=Zbj _ _
 have l3:(Zar 3 f.body.length).length=3:=Zbj _ _
 rw[hE,Zal]
 have HE:=Hd hE
 have h10:¬1024 < f.body.length:=by omega
 clear hB0 hb0 hr hE hb1 hb2
 go_enter func104,ntmps104
 unfold frV
 go_wp2_with fail
 refine(Ztt f.S 4 _).mono ?_
 rintro e w1 ⟨A1,c1,rfl,hg1⟩
 rw[HE1.out]
 rw[e1]at hg1⊢
 rw[l4]
 have hblk:=HB0.out.below hg1.2.2 HB0.out.lt
 have q0:=hblk.cell 0
 have q1:=hblk.cell 1
 have q3:=hblk.cell 3
 have HG:=Hd hg1
 have HK:=Hd hblk
 clear hg1 hblk
 go_wp2_with (go_at_call 157;refine(Zzh _ _).mono ?_;rintro e w' ⟨rfl,rfl⟩)
 refine(Ztt (f.body.length:Nat) 3 _).mono ?_
 rintro e w2 ⟨A2,c2,rfl,hg2⟩
 rw[HE2.out]
 rw[e2]at hg2⊢
 rw[l3]
 have hblk:=HK.out.below hg2.2.2 HK.out.lt
 have q0:=hblk.cell 0
 have q1:=hblk.cell 1
 have q3:=hblk.cell 3
 have HG2:=Hd hg2
 have HK2:=Hd hblk
 have hlt2:=hblk.lt
 clear hg2 hblk
 go_wp2_with fail
 have hB2:=(Below.refl w2.heap.size w2).alloc (Nat.le_refl _) (.cells #[.int .u8 f.K,.int .u8 f.F] 5)
 have hB3:=hB2.alloc hB2.size (.cells #[.slice A2 3 c2,.slice (some ⟨w2.heap.size,0,none⟩) 2 2,.slice A1 4 c1,.slice A f.body.length c] 23)
 have hps:=Zwv (f:=f) (A1:=A2) (c1:=c2) (x:=w2.heap.size) (A2:=A1) (c2:=c1) (A:=A) (c:=c) (pb:=w2.heap.size+1)
  (W:=(w2.alloc (.cells #[.int .u8 f.K,.int .u8 f.F] 5)).alloc (.cells #[.slice A2 3 c2,.slice (some ⟨w2.heap.size,0,none⟩) 2 2,.slice A1 4 c1,.slice A f.body.length c] 23))
  (by have:=Blk.new (w2.alloc (.cells #[.int .u8 f.K,.int .u8 f.F] 5)) 23 #[.slice A2 3 c2,.slice (some ⟨w2.heap.size,0,none⟩) 2 2,.slice A1 4 c1,.slice A f.body.length c];rwa [World.size_alloc]at this)
  (by have:=HG2.out.2.1;rw[l3]at this;exact(this.below hB3).more hB3.size) ((Blk.new w2 5 _).alloc _)
  (by have:=HG.out.2.1;rw[l4]at this;exact((this.below HG2.out.2.2).more HG2.out.2.2.size).below hB3 |>.more hB3.size)
  (((((HR.out.below HBB.out).more HBB.out.size).below HG.out.2.2).more HG.out.2.2.size |>.below HG2.out.2.2 |>.more HG2.out.2.2.size).below hB3 |>.more hB3.size)
 have hfl:=Zqi HE.out A2 c2 w2.heap.size A1 c1 A c
 have hfl2:=Zbu HE.out
 refine(Zfx _ _ _ hps (by rw[hfl.1];omega) (by simp[Zfw])).mono ?_
 rintro e w3 ⟨v,rfl,hown,hb3⟩
 rw[hfl.1,hfl.2]at hown
 obtain⟨A',c',rfl,hg⟩:=Zdg hown hb3
 have hs1:=HG.out.2.2.size
 have hs2:=HG2.out.2.2.size
 have hs0:=HBB.out.size
 have HOWN:=Hd (Zdk hown (B':=w.heap.size) (by simp;omega))
 have HGG:=Hd hg
 have HBE:=Hd (((HBB.out.trans (HG.out.2.2.mono HBB.out.size)).trans (HG2.out.2.2.mono (Nat.le_trans HBB.out.size HG.out.2.2.size))).trans (hB3.mono (Nat.le_trans HBB.out.size (Nat.le_trans HG.out.2.2.size HG2.out.2.2.size))))
 clear hps hfl hfl2 hg hown hb3 hB2 hB3 hs0 hs1 hs2
 go_wp2
 go_ret2
 exact⟨A',c',rfl,⟨HGG.out.1,HGG.out.2.1,HBE.out.trans (HGG.out.2.2.mono HBE.out.size)⟩,HOWN.out⟩
end
section
open Go.RowKit
attribute [local go_sem ↓] Go.wp_at_zero Go.wp_at_succ
structure Tab (w:World)(g:Nat)(A:Option Addr)(c:Nat)(xs:List Fld)(mx:Nat):Prop where
 blk:Blk w g 168 #[.slice A xs.length c,.int .i64 (wt xs:Nat),.int .i64 (mx:Nat)]
 own:w.ownsRow 0 41 2 (.slice A xs.length c) xs.length (fvs xs)
 wt:wt xs<=4096
 mx:mx<=4096
def Zhs (g:Nat)(A:Option Addr)(k:Nat):Prop:=k=g∨∃a,A=some a/\k=a.block
structure Zax (S:Nat->Prop)(w w':World):Prop where
 os:w'.os=w.os
 tape:w'.tape=w.tape
 output:w'.output=w.output
 size:w.heap.size<=w'.heap.size
 block:∀k,k < w.heap.size->¬S k->w'.heap[k]? =w.heap[k]?
section
variable {S T:Nat->Prop} {w w' w1 w2:World}
theorem Zax.refl (S:Nat->Prop)(w:World):Zax S w w:=⟨rfl,rfl,rfl,Nat.le_refl _,fun _ _ _=>rfl⟩
theorem Zax.of_below (h:Below w.heap.size w w'):Zax S w w':=⟨h.os,h.tape,h.output,h.size,fun k hk _=>h.block k hk⟩
theorem Zax.trans (h:Zax S w w1)(k:Zax T w1 w2)(hT:∀i,T i->S i∨w.heap.size<=i):Zax S w w2:=
 ⟨k.os.trans h.os,k.tape.trans h.tape,k.output.trans h.output,Nat.le_trans h.size k.size,fun i hi hS=>
  (k.block i (Nat.lt_of_lt_of_le hi h.size) fun hTi=>by rcases hT i hTi with h1 | h1;exact hS h1;omega).trans (h.block i hi hS)⟩
theorem Zax.mono (h:Zax S w w')(hT:∀i,S i->T i):Zax T w w':=⟨h.os,h.tape,h.output,h.size,fun i hi hS=>h.block i hi fun hs=>hS (hT i hs)⟩
theorem Zax.below {B:Nat}(h:Zax S w w')(hB:B<=w.heap.size)(hS:∀i,S i->B<=i):Below B w w':=
 ⟨h.os,h.tape,h.output,h.size,fun k hk=>h.block k (by omega) fun hs=>by have:=hS k hs;omega⟩
theorem Zax.drew (h:Zax S w w'):Zax S w w'.drew:=⟨h.os,h.tape,h.output,h.size,h.block⟩
theorem Zax.drewN (h:Zax S w w')(n:Nat):Zax S w (w'.drewN n):=⟨h.os,h.tape,h.output,h.size,h.block⟩
theorem Zax.setCell (h:Zax S w w'){p:Addr}(hp:S p.block∨w.heap.size<=p.block)(u:Value):Zax S w (w'.setCell p u):=
 ⟨h.os,h.tape,h.output,by simpa [World.setCell]using h.size,fun i hi hS=>(Below.heap_setCell w' p u i (by
  rintro rfl
  rcases hp with hp | hp
  ·exact hS hp
  ·omega)).trans (h.block i hi hS)⟩
theorem Zax.grown (h:Zax S w w1){row:Option Nat}(hg:w1.grownBy w2 row)(hr:∀k,row=some k->S k∨w.heap.size<=k):Zax S w w2:=
 ⟨hg.os.trans h.os,hg.tape.trans h.tape,hg.output.trans h.output,Nat.le_trans h.size hg.size,fun i hi hS=>
  (hg.block i (Nat.lt_of_lt_of_le hi h.size) fun e=>by rcases hr i e.symm with h1 | h1;exact hS h1;omega).trans (h.block i hi hS)⟩
theorem Blk.keep {g:Nat}{t:TypeId}{cs:Array Value}(h:Blk w g t cs)(hk:Zax S w w')(hS:¬S g):Blk w' g t cs:=(hk.block g h.lt hS).trans h
theorem Zul {B size n:Nat}{e:TypeId}{A:Option Addr}{c:Nat}{xs:List Value}(h:w.ownsRow B e size (.slice A n c) n xs)(hk:Zax S w w')(hS:∀a,A=some a->¬S a.block):w'.ownsRow B e size (.slice A n c) n xs:=by
 refine⟨h.1,?_⟩
 rcases h.2 with h0 | ⟨g,cap,cur,hv,hB,hh,hr⟩
 ·exact .inl h0
 ·refine .inr ⟨g,cap,cur,hv,hB,?_,hr⟩
  injection hv with hA
  exact(hk.block g (Blk.lt (t:=e) (cs:=cur) hh) (hS _ hA)).trans hh
end
theorem own_cut {w:World}{B size n k:Nat}{e:TypeId}{A:Option Addr}{c:Nat}{xs:List Value}(h:w.ownsRow B e size (.slice A n c) n xs)(hk:k < n):w.ownsRow B e size (.slice A k c) k (xs.take (k*size)):=by
 have hm:k*size<=n*size:=Nat.mul_le_mul_right _ (by omega)
 refine⟨by rw[List.length_take,h.1];omega,?_⟩
 rcases h.2 with⟨_,h0⟩ | ⟨g,cap,cur,hv,hB,hh,hc,hcm,hs,hx⟩
 ·omega
 ·injection hv with hA _ hcc
  subst hcc
  refine .inr ⟨g,c,cur,by rw[hA],hB,hh,by omega,hcm,hs,?_⟩
  rw[<-hx,List.take_take,Nat.min_eq_left hm]
theorem Zei {w:World}{B size n:Nat}{e:TypeId}{A:Option Addr}{c:Nat}{xs:List Value}(h:w.ownsRow B e size (.slice A n c) n xs):Zab w w.heap.size size A n xs:=Zab.of_own h
section
variable {w w':World} {g:Nat} {A:Option Addr} {c:Nat} {xs:List Fld} {mx:Nat} {S:Nat->Prop}
theorem Tab.keep (h:Tab w g A c xs mx)(hk:Zax S w w')(hS:∀k,Zhs g A k->¬S k):Tab w' g A c xs mx:=
 ⟨h.blk.keep hk (hS g (.inl rfl)),Zul h.own hk fun a ha=>hS _ (.inr ⟨a,ha,rfl⟩),h.wt,h.mx⟩
theorem Tab.below (h:Tab w g A c xs mx)(hb:Below w.heap.size w w'):Tab w' g A c xs mx:=h.keep (S:=fun _=>False) (Zax.of_below hb) fun _ _ h=>h
theorem Tab.cells (h:Tab w g A c xs mx):w.cell? ⟨g,0,none⟩=some (.slice A xs.length c)/\w.cell? ⟨g,1,none⟩=some (.int .i64 (Go.Proofs.YtbgnggkgmeagkaaGreatDoor.wt xs:Nat))/\w.cell? ⟨g,2,none⟩=some (.int .i64 (mx:Nat)):=
 ⟨h.blk.cell 0,h.blk.cell 1,h.blk.cell 2⟩
theorem Tab.cap (h:Tab w g A c xs mx):xs.length<=c/\c<=maxLen/\xs.length<=128:=by
 have h1:=Zmj xs
 have h2:=h.wt
 have h3:=h.mx
 rcases h.own.2 with⟨he,h0⟩ | ⟨_,cap,cur,he,_,_,hc,hm,_⟩
 ·injection he with _ _ hc
  omega
 ·injection he with _ _ hc
  subst hc
  exact⟨hc,hm,by omega⟩
theorem Tab.lt (h:Tab w g A c xs mx):∀k,Zhs g A k->k < w.heap.size:=by
 rintro k (rfl | ⟨a,rfl,rfl⟩)
 ·exact h.blk.lt
 ·exact(h.own.lt _ rfl).2
end
theorem Zaj {w w1:World}(hb:Below w.heap.size w w1){p:Addr}{v:Value}(h:w.cell? p=some v):w1.cell? p=some v:=(hb.cell (World.block_lt_of_cell? w p h)).trans h
theorem Zoh {w w1:World}(hb:Below w.heap.size w w1){b o:Nat}{z:Bool}(hlt:b < w.heap.size)(h:w.frozen? ⟨b,o,none⟩=z):w1.frozen? ⟨b,o,none⟩=z:=(hb.frozen (p:=⟨b,o,none⟩) hlt).trans h
theorem Zlo {w w1:World}(hb:Below w.drew.heap.size w.drew w1){p:Addr}{v:Value}(h:w.cell? p=some v):w1.cell? p=some v:=Zaj hb h
theorem Zhy {w w1:World}(hb:Below w.drew.heap.size w.drew w1){b o:Nat}{z:Bool}(hlt:b < w.heap.size)(h:w.frozen? ⟨b,o,none⟩=z):w1.frozen? ⟨b,o,none⟩=z:=Zoh hb hlt h
theorem Zzq {w:World}{g:Nat}{A:Option Addr}{c:Nat}{xs:List Fld}{mx:Nat}(h:Tab w g A c xs mx):
  CA 150 #[.pointer (some ⟨g,0,none⟩)] w fun e w'=>e=.returned (.int .i64 ((12+xs.length:Nat):Int))/\Below w.heap.size w w':=by
 obtain⟨c0,_,_⟩:=h.cells
 obtain⟨_,_,hl⟩:=h.cap
 have hg:=h.blk.lt
 clear h
 go_enter func150,ntmps150
 go_wp2
 go_region_held3 (fun w'=>w'.cell? ⟨g,0,none⟩=some (.slice A xs.length c)) (go_keep) (first | (go_at_call 89;refine(Zhc _).mono ?_;rintro e w' ⟨rfl,rfl⟩))
 all_goals
  go_wp2
  go_ret
  refine⟨?_,(((Below.refl _ _).alloc (Nat.le_refl _) _)).drew⟩
  rw[IntKind.wrap_i64]
  simp
  omega
theorem Zpo (m:Int)(h0:0<=m)(h:m<=4096)(w:World):
  CA 85 #[.int .i64 m] w fun e w'=>e=.returned (.bool true)/\w=w':=by
 go_enter func85,ntmps85
 go_wp2
 go_ret
 refine⟨?_,rfl⟩
 simp[h]
theorem Zzm (m:Nat)(h:m<=4096)(w:World):
  CA 39 #[.int .i64 (m:Int)] w fun e w'=>e=.returned (.tuple #[.pointer (some ⟨w.heap.size,0,none⟩),.nilIface])/\Tab w' w.heap.size none 0 [] m/\Below w.heap.size w w'/\w'.heap.size=w.heap.size+1:=by
 go_enter func39,ntmps39
 go_wp2_with (go_at_call 85;refine(Zpo _ (by omega) (by omega) _).mono ?_;rintro e w' ⟨rfl,rfl⟩)
 go_ret2
 refine⟨rfl,⟨Blk.new _ _ _,World.ownsRow_nil _ _ _ _,by simp[wt],h⟩,(Below.refl _ _).alloc (Nat.le_refl _) _,by simp⟩
theorem Znf (xs:List Fld)(n:Nat):wt (xs.take n)<=wt (xs.take (n+1)):=by
 have h1:=Zix (xs.take (n+1)) n
 rwa [List.take_take,Nat.min_eq_left (by omega)]at h1
theorem Zif {w:World}{B size n:Nat}{e:TypeId}{A:Option Addr}{c:Nat}{xs:List Value}(h:w.ownsRow B e size (.slice A n c) n xs){p:Addr}(hp:∀a,A=some a->a.block≠p.block)(u:Value):(w.setCell p u).ownsRow B e size (.slice A n c) n xs:=by
 refine⟨h.1,?_⟩
 rcases h.2 with h0 | ⟨g,cap,cur,hv,hB,hh,hr⟩
 ·exact .inl h0
 ·refine .inr ⟨g,cap,cur,hv,hB,?_,hr⟩
  injection hv with hA
  exact(Below.heap_setCell w p u g (hp _ hA)).trans hh
theorem Zyb {w:World}{g:Nat}{A:Option Addr}{c:Nat}{xs:List Fld}{mx:Nat}(h:Tab w g A c xs mx):∀a,A=some a->a.block≠g:=by
 intro a ha he
 have:=Zao h.own h.blk (by decide)
 rw[ha]at this
 exact this (by simp[Value.ownBlock,he])
theorem shr_step {w wr w1:World}{g:Nat}{A:Option Addr}{c:Nat}{xs:List Fld}{mx n:Nat}(h:Tab wr g A c (xs.take (n+1)) mx)(hn:n+1<=xs.length)(hb:Below wr.drew.heap.size wr.drew w1)(hk:Zax (Zhs g A) w wr):
  Tab ((w1.setCell ⟨g,1,none⟩ (.int .i64 ((wt (xs.take n):Nat):Int))).setCell ⟨g,0,none⟩ (.slice A n c)) g A c (xs.take n) mx/\
   Zax (Zhs g A) w ((w1.setCell ⟨g,1,none⟩ (.int .i64 ((wt (xs.take n):Nat):Int))).setCell ⟨g,0,none⟩ (.slice A n c)):=by
 have hlen:(xs.take n).length=n:=by simp;omega
 have hlen1:(xs.take (n+1)).length=n+1:=by simp;omega
 have hlt:g < wr.heap.size:=h.blk.lt
 have hb':Below wr.heap.size wr w1:=⟨hb.os,hb.tape,hb.output,hb.size,hb.block⟩
 have h1:=h.below hb'
 have hne:=Zyb h
 constructor
 ·refine⟨?_,?_,?_,h.mx⟩
  ·have:=((h1.blk.set_ 1 (.int .i64 ((wt (xs.take n):Nat):Int))).set_ 0 (.slice A n c))
   rw[hlen]
   simpa using this
  ·have ho:=h1.own
   rw[hlen1]at ho
   have h2:=own_cut ho (show n < n+1 by omega)
   rw[fvs_take,List.take_take,Nat.min_eq_left (by omega)]at h2
   rw[hlen]
   exact Zif (Zif h2 hne _) hne _
  ·have h3:=Znf xs n
   have h4:=h.wt
   omega
 ·have k1:Zax (Zhs g A) wr w1:=Zax.of_below hb'
  exact((hk.trans k1 fun i hi=> .inl hi).setCell (.inl (.inl rfl)) _).setCell (.inl (.inl rfl)) _
theorem Zi2 {w:World}{g:Nat}{A:Option Addr}{c:Nat}{xs:List Fld}{mx:Nat}(h:Tab w g A c xs mx)(most:Nat)(hmo:most<=4096):
  CA 92 #[.pointer (some ⟨g,0,none⟩),.int .i64 (most:Int)] w fun e w'=>e=.returned (.tuple #[])/\Tab w' g A c (shr most xs) mx/\Zax (Zhs g A) w w':=by
 obtain⟨hcap,hcm,hl⟩:=h.cap
 unfold maxLen at hcm
 have hmx:=h.mx
 go_enter func92,ntmps92
 go_wp2
 go_loopg [4] xs.length (fun n _ wr=>n<=xs.length/\Hid (Zrw most xs n=Zrw most xs xs.length)/\Hid (Tab wr g A c (xs.take n) mx)/\Hid (Zax (Zhs g A) w wr))
 case atStart=>exact⟨Nat.le_refl _,rfl,by rw[List.take_of_length_le (Nat.le_refl _)];exact h,Zax.refl _ _⟩
 case round=>
  obtain⟨hn,H1,H2,H3⟩:=hrel
  have hlen:(xs.take gk).length=gk:=by simp;omega
  have hT:=H2.out
  obtain⟨c0,c1,c2⟩:=hT.cells
  have hw4:=hT.wt
  have f0:=hT.blk.frozen 0
  have f1:=hT.blk.frozen 1
  have hg:=hT.blk.lt
  have hown:=hT.own
  rw[hlen]at c0 hown
  by_cases hgo:wt (xs.take gk)<=most
  ·have hN:Zrw most xs gk=gk:=Zyi hgo
   have hd:decide ((most:Int) < ((wt (xs.take gk):Nat):Int))=false:=by simp;omega
   clear hT hown hlen
   generalize wt (xs.take gk)=W at*
   go_wp2
   go_end0
   have e:shr most xs=xs.take gk:=by unfold shr;rw[<-H1.out,hN]
   rw[e]
   exact⟨rfl,H2.out,H3.out⟩
  ·obtain⟨n,rfl⟩:∃n,gk=n+1:=⟨gk-1,by
    have:gk≠0:=by rintro rfl;simp[wt]at hgo
    omega⟩
   have hN:Zrw most xs (n+1)=Zrw most xs n:=shrN_go hgo
   have hws:=Zje xs n (by omega)
   have hfs:=Z0c xs[n]
   have hr:=Zei hown
   have hr':Zab wr wr.heap.size 2 A (xs.take (n+1)).length (fvs (xs.take (n+1))):=by rw[hlen];exact hr
   obtain⟨rb,ro,hA,hrb,hcl⟩:=Zb4 hr' (by omega)
   obtain⟨e1,e2⟩:=hcl n (by omega)
   have hget:(xs.take (n+1))[n]'(by omega)=xs[n]:=by simp
   rw[hget]at e1 e2
   have hne:rb≠g:=by
    have:=Zao hown hT.blk (by decide)
    rw[hA]at this
    simpa [Value.ownBlock]using this
   have hsz:fsz xs[n]<=4096:=by omega
   generalize hf:xs[n]=f at*
   have hfok:fOk f:=by
    unfold fsz at hsz
    constructor <;> omega
   have HD:=Hd hN
   have HO:=Hd hown
   have hwr:IntKind.i64.wrap (((wt (xs.take (n+1)):Nat):Int)-((fsz f:Nat):Int))=((wt (xs.take n):Nat):Int):=by
    rw[IntKind.wrap_i64]
    omega
   have HS:=Hd (fun(w1:World) (hb:Below wr.drew.heap.size wr.drew w1)=>shr_step (w:=w) H2.out hn hb H3.out)
   have hd:decide ((most:Int) < ((wt (xs.take (n+1)):Nat):Int))=true:=by simp;omega
   clear hr hr' hcl hget hlen hT hown hf hN hws
   subst hA
   generalize wt (xs.take (n+1))=W at*
   generalize wt (xs.take n)=W0 at*
   have i0:(0:Int)<=(n:Int):=by omega
   have i1:(n:Int) < (n:Int)+1:=by omega
   go_wp2
   go_region_law? (first | (go_simp;go_at_call 91;refine(Zgs f hfok _).mono ?_;rintro e w1 ⟨rfl,hb⟩;have b1:=Zlo hb c1;have b0:=Zlo hb c0;have g1:=Zhy hb hg f1;have g0:=Zhy hb hg f0))
   all_goals
    go_wp2
    go_roundg n
    case measure=>omega
    case rel=>exact⟨by omega,HD.out.symm.trans H1.out,(HS.out _ hb).1,(HS.out _ hb).2⟩
end
section
open Go.RowKit
theorem Zx5 (w:World)(a b:Value)(t:TypeId):Zab (w.alloc (.cells #[a,b] t)) (w.heap.size+1) 2 (some ⟨w.heap.size,0,none⟩) 1 [a,b]:=by
 refine⟨rfl,fun _=>⟨_,rfl,Nat.lt_succ_self _,fun j u hu=> ?_⟩⟩
 rw[Addr.add_lit,Nat.zero_add,cell_of_row _ _ _ _ _ _ (heap_alloc_new w _)]
 simpa using hu
theorem Zjf {ops:Array Oper}{rest:List Oper}{o:Oper}{a:Act}{Q:Exit->Act->World->Prop}{w:World}(hgd:o.guard=none)(s x:Operand)
  (ho:o.op=.call {callee:=.builtin .append,args:= #[s,x],argTypes:= #[22,22]})
  (base:Nat) (v:Value) (n:Nat) (xs:List Fld) (hs:a.eval s=v) (hown:w.ownsRow base 41 2 v n (fvs xs)) (f:Fld)
  (z:Nat) (hx:a.eval x=.slice (some ⟨z,0,none⟩) 1 1) (hz:z=w.heap.size) (hn:n+1<=1000000) (hbase:base<=w.heap.size)
  (h:∀A' c' w',w'.ownsRow base 41 2 (.slice A' (n+1) c') (n+1) (fvs (xs++[f]))->Below base w w'->n+1<=c'->wpList prog ops Q rest (a.put o.dst (.slice A' (n+1) c')) w'):
  wpList prog ops Q (o::rest) a (w.alloc (.cells #[.string ⟨f.1.toArray⟩,.string ⟨f.2.toArray⟩] 41)):=by
 subst hz
 obtain⟨i0,hi,hz0,hz1,hz2⟩:=info_parts Zdm
 refine Zah _ hgd s x 22 ho base 41 i0 (.agg #[.string ⟨#[]⟩,.string ⟨#[]⟩]) 2 32 underlying22 hi hz0 hz1 hz2 rfl (by decide) v n (fvs xs) hs (hown.alloc _) (w.heap.size+1) (some ⟨w.heap.size,0,none⟩) 1 1 [.string ⟨f.1.toArray⟩,.string ⟨f.2.toArray⟩] hx (Zx5 w _ _ _) ?_ (by unfold maxLen;omega) (by omega) (by simp;omega) ?_
 ·intro u hu
  simp only[List.mem_cons,List.not_mem_nil,or_false]at hu
  rcases hu with rfl | rfl <;> rfl
 ·intro v' w' hown' hg _
  have e:fvs (xs++[f])=fvs xs++[.string ⟨f.1.toArray⟩,.string ⟨f.2.toArray⟩]:=by rw[Zg4];rfl
  have hb:=Zbl ((Below.refl base w).alloc hbase _) (hown.alloc _) hg (by simp;omega)
  rcases hown'.2 with⟨_,h0⟩ | ⟨g,cap,cur,rfl,_,_,hc,_⟩
  ·omega
  ·exact h _ _ w' (by rw[e];exact hown') hb hc
theorem Zd1 {ops:Array Oper}{rest:List Oper}{o:Oper}{a:Act}{Q:Exit->Act->World->Prop}{w:World}(hgd:o.guard=none)(s x:Operand)
  (ho:o.op=.call {callee:=.builtin .append,args:= #[s,x],argTypes:= #[22,22]})
  (base:Nat) (v:Value) (n:Nat) (xs:List Fld) (hs:a.eval s=v) (hown:w.ownsRow base 41 2 v n (fvs xs)) (f:Fld)
  (z:Nat) (hx:a.eval x=.slice (some ⟨z,0,none⟩) 1 1) (hz:z=w.heap.size) (hn:n+1<=1000000) (hbase:base<=w.heap.size)
  (h:∀A' c' w',w'.ownsRow base 41 2 (.slice A' (n+1) c') (n+1) (fvs (xs++[f]))->(w.alloc (.cells #[.string ⟨f.1.toArray⟩,.string ⟨f.2.toArray⟩] 41)).grownBy w' v.ownBlock->((Value.slice A' (n+1) c').ownBlock=v.ownBlock∨(Value.slice A' (n+1) c').ownBlock=some (w.heap.size+1))->Below base w w'->wpList prog ops Q rest (a.put o.dst (.slice A' (n+1) c')) w'):
  wpList prog ops Q (o::rest) a (w.alloc (.cells #[.string ⟨f.1.toArray⟩,.string ⟨f.2.toArray⟩] 41)):=by
 subst hz
 obtain⟨i0,hi,hz0,hz1,hz2⟩:=info_parts Zdm
 refine Zah _ hgd s x 22 ho base 41 i0 (.agg #[.string ⟨#[]⟩,.string ⟨#[]⟩]) 2 32 underlying22 hi hz0 hz1 hz2 rfl (by decide) v n (fvs xs) hs (hown.alloc _) (w.heap.size+1) (some ⟨w.heap.size,0,none⟩) 1 1 [.string ⟨f.1.toArray⟩,.string ⟨f.2.toArray⟩] hx (Zx5 w _ _ _) ?_ (by unfold maxLen;omega) (by omega) (by simp;omega) ?_
 ·intro u hu
  simp only[List.mem_cons,List.not_mem_nil,or_false]at hu
  rcases hu with rfl | rfl <;> rfl
 ·intro v' w' hown' hg hv
  have e:fvs (xs++[f])=fvs xs++[.string ⟨f.1.toArray⟩,.string ⟨f.2.toArray⟩]:=by rw[Zg4];rfl
  have hb:=Zbl ((Below.refl base w).alloc hbase _) (hown.alloc _) hg (by simp;omega)
  have hsz:(w.alloc (.cells #[.string ⟨f.1.toArray⟩,.string ⟨f.2.toArray⟩] 41)).heap.size=w.heap.size+1:=by simp
  rw[hsz]at hv
  rcases hown'.2 with⟨_,h0⟩ | ⟨g,cap,cur,rfl,_,_,hc,_⟩
  ·omega
  ·exact h _ _ w' (by rw[e];exact hown') hg hv hb
end
end Go.Proofs.YtbgnggkgmeagkaaGreatDoor
