/-
  A part of the proof of TopAlike: each theorem states its own conditions.
-/
import Derived.Test.YtbgnggkgmeagkaaGreatDoorProg
import Derived.WalkKit
import Derived.Lib.Hide
import Derived.Lib.IndexLaws
import Derived.WalkSpells
import Derived.WalkLawsBesides
import Derived.Below
import Derived.OneCell
import Derived.Laws.OwnMore
import Derived.Laws.Rows
import Derived.Deep.AppendLies
import Derived.Deep.Draws
import Derived.Maps.AppendAt
import Derived.RegionTactic
import Derived.OwnWalk
import Derived.DataReads
import Derived.Laws.BitsAllLaws
set_option linter.unusedSimpArgs false
set_option linter.unusedVariables false
set_option maxRecDepth 100000
set_option maxHeartbeats 16000000
namespace Go.Proofs.YtbgnggkgmeagkaaGreatDoor
open Go.Proofs.Tryz
section
open Go.RowKit
theorem Hd {p:Prop}(h:p):Go.RowKit.Hid p:=h
theorem exl {α:Sort _}(a:α):∃x,a=x:=⟨a,rfl⟩
abbrev CA := @Calls prog
theorem Mo {P:Go.Program}{f:Go.FuncId}{a:Array Go.Value}{w:Go.World}{Q R:Go.Ending->Go.World->Prop}(h:Go.RowKit.Hid (Calls P f a w Q))(q:∀e w',Q e w'->R e w'):Calls P f a w R:=Calls.mono h q
end
section
def Zde :List UInt8:=[101,116,97,111,105,110,115,104,114,100,108,117,99,109,102,119,121,112,118,98,103,107,120,106,113,122,45,47,46,58,48,32]
def Zhx (c:UInt8):Int:=Lib.indexByte Zde c
theorem Zfs (c:UInt8): -1<=Zhx c/\Zhx c<=31:=by
 refine⟨Lib.indexByte_ge _ _,?_⟩
 have h:∀c:Fin 256,Lib.indexByte Zde (UInt8.ofNat c.val)<=31:=by decide+kernel
 have:=h ⟨c.toNat,c.toNat_lt⟩
 simpa [Zhx]using this
theorem often_at {c:UInt8}{k:Nat}(h:Zhx c=k):Zde[k]? =some c:=(Lib.indexByte_some h).1
theorem Zv6 {c:UInt8}{k:Nat}(h:Zde[k]? =some c):Zhx c=k:=by
 have hk:k < 32:=(List.getElem?_eq_some_iff.1 h).1
 have hall:∀k:Fin 32,∀c,Zde[k.val]? =some c->Zhx c=k.val:=by
  intro k c hc
  have h2:∀k:Fin 32,Zhx (Zde.getD k.val 0)=k.val:=by decide+kernel
  have e:Zde.getD k.val 0=c:=by simp[List.getD,hc]
  rw[<-e]
  exact h2 k
 exact hall ⟨k,hk⟩ c h
def Zbb :Nat->Nat->List Bool
 | 0,_=> []
 | m+1,x=>x.testBit m::Zbb m x
def val (l:List Bool):Nat:=l.foldl (fun n b=>2*n+b.toNat) 0
theorem Zbs (m x:Nat):(Zbb m x).length=m:=by
 induction m with
 | zero=>rfl
 | succ m ih=>simp[Zbb,ih]
theorem Zt0 (l:List Bool)(b:Bool):val (l++[b])=2*val l+b.toNat:=by simp[val]
theorem Z0h (l:List Bool):∀n:Nat,l.foldl (fun n b=>2*n+b.toNat) n=n*2 ^ l.length+val l:=by
 induction l with
 | nil=>intro n;simp[val]
 | cons c r ih=>
  intro n
  simp only[List.foldl_cons,List.length_cons,val,Nat.mul_zero,Nat.zero_add]
  rw[ih,ih c.toNat,Nat.pow_succ,Nat.add_mul,<-Nat.add_assoc]
  congr 2
  rw[Nat.mul_comm 2 n,Nat.mul_assoc,Nat.mul_comm 2]
theorem Zj1 (b:Bool)(l:List Bool):val (b::l)=b.toNat*2 ^ l.length+val l:=by
 have h:=Z0h l b.toNat
 simpa [val]using h
theorem Zga (l:List Bool):val l < 2 ^ l.length:=by
 induction l with
 | nil=>simp[val]
 | cons b r ih=>
  rw[Zj1,List.length_cons,Nat.pow_succ]
  cases b <;> simp <;> omega
theorem Ziy (m x:Nat):val (Zbb m x)=x % 2 ^ m:=by
 induction m with
 | zero=>simp[Zbb,val,Nat.mod_one]
 | succ m ih=>
  rw[Zbb,Zj1,ih,Zbs,Nat.toNat_testBit,Nat.pow_succ,Nat.mod_mul]
  rw[Nat.mul_comm,Nat.add_comm]
theorem Zjb (l:List Bool):Zbb l.length (val l)=l:=by
 have key:∀(l:List Bool) (n:Nat),Zbb l.length (n*2 ^ l.length+val l)=l:=by
  intro l
  induction l with
  | nil=>intro n;rfl
  | cons b r ih=>
   intro n
   have hlt:=Zga r
   rw[List.length_cons,Zbb,Zj1]
   have e:n*2 ^ (r.length+1)+(b.toNat*2 ^ r.length+val r)=(2*n+b.toNat)*2 ^ r.length+val r:=by
    rw[Nat.pow_succ,Nat.add_mul,Nat.mul_comm 2 n,Nat.mul_assoc,Nat.mul_comm 2 (2 ^ r.length)]
    omega
   rw[e,ih]
   congr 1
   have h1:((2*n+b.toNat)*2 ^ r.length+val r) / 2 ^ r.length=2*n+b.toNat:=by
    rw[Nat.add_comm,Nat.add_mul_div_right _ _ (Nat.two_pow_pos _),Nat.div_eq_of_lt hlt,Nat.zero_add]
   rw[Nat.testBit_eq_decide_div_mod_eq,h1]
   cases b <;> simp <;> omega
 have:=key l 0
 simpa using this
def cw (c:UInt8):List Bool:=if 0<=Zhx c then Zbb 6 (Zhx c).toNat else Zbb 9 (256+c.toNat)
def Zap (s:List UInt8):List Bool:=s.flatMap cw
theorem Zqu (c:UInt8):(cw c).length=if 0<=Zhx c then 6 else 9:=by
 unfold cw
 split <;> exact Zbs _ _
theorem Zdv (c:UInt8)(s:List UInt8):Zap (c::s)=cw c++Zap s:=rfl
theorem Zmf (a b:List UInt8):Zap (a++b)=Zap a++Zap b:=by simp[Zap]
theorem Zm2 (s:List UInt8):(Zap s).length<=9*s.length:=by
 induction s with
 | nil=>simp[Zap]
 | cons c s ih=>
  rw[Zdv,List.length_append,Zqu,List.length_cons]
  split <;> omega
def Zo4 (n:Nat):Nat:=(8-n % 8) % 8
def Zpw (l:List Bool):List Bool:=l++List.replicate (Zo4 l.length) true
theorem Zie (l:List Bool):(Zpw l).length % 8=0/\(Zpw l).length=(l.length+7) / 8*8:=by
 simp only[Zpw,List.length_append,List.length_replicate,Zo4]
 omega
def Ze2 (l:List Bool):List UInt8:=if l.length=0 then []else UInt8.ofNat (val (l.take 8)*2 ^ (8-l.length))::Ze2 (l.drop 8)
termination_by l.length
decreasing_by simp only[List.length_drop];omega
theorem Zgv :Ze2 []=[]:=by rw[Ze2];rfl
theorem Zi8 {l:List Bool}(h0:l.length≠0)(h:l.length<=8):Ze2 l=[UInt8.ofNat (val l*2 ^ (8-l.length))]:=by
 rw[Ze2,if_neg h0,List.take_of_length_le h,List.drop_of_length_le h,Zgv]
theorem Zd9 (a l:List Bool)(h:a.length=8):Ze2 (a++l)=UInt8.ofNat (val a)::Ze2 l:=by
 rw[Ze2,if_neg (by rw[List.length_append];omega),List.take_left' h,List.drop_left' h]
 congr 2
 rw[List.length_append,show 8-(a.length+l.length)=0 by omega]
 simp
theorem Zk3 (l:List Bool):(Ze2 l).length=(l.length+7) / 8:=by
 induction hn:l.length using Nat.strongRecOn generalizing l with
 | ind n ih=>
  subst hn
  by_cases h0:l.length=0
  ·have:l=[]:=List.eq_nil_of_length_eq_zero h0
   subst this
   simp[Zgv]
  ·rw[Ze2,if_neg h0,List.length_cons,ih (l.drop 8).length (by simp only[List.length_drop];omega) _ rfl]
   simp only[List.length_drop]
   omega
theorem Zn6 (l:List Bool)(b:Bool)(h:l.length % 8=0):Ze2 (l++[b])=Ze2 l++[UInt8.ofNat (b.toNat*128)]:=by
 induction hn:l.length using Nat.strongRecOn generalizing l with
 | ind n ih=>
  subst hn
  by_cases h0:l.length=0
  ·have:l=[]:=List.eq_nil_of_length_eq_zero h0
   subst this
   rw[Zgv,List.nil_append,Zi8 (by simp) (by simp)]
   simp[val]
  ·have e:l=l.take 8++l.drop 8:=(List.take_append_drop 8 l).symm
   have h8:(l.take 8).length=8:=by rw[List.length_take];omega
   have hd:(l.drop 8).length=l.length-8:=List.length_drop ..
   rw[e,List.append_assoc,Zd9 _ _ h8,Zd9 _ _ h8,ih (l.drop 8).length (by omega) _ (by omega) rfl]
   rfl
theorem Zpx (l:List Bool)(b:Bool)(h:l.length % 8≠0):∃y:UInt8,(Ze2 l)[l.length / 8]? =some y/\y.toNat % 2 ^ (8-l.length % 8)=0/\
  y.toNat+b.toNat*2 ^ (7-l.length % 8) < 256/\Ze2 (l++[b])=(Ze2 l).set (l.length / 8) (UInt8.ofNat (y.toNat+b.toNat*2 ^ (7-l.length % 8))):=by
 induction hn:l.length using Nat.strongRecOn generalizing l with
 | ind n ih=>
  subst hn
  by_cases h8:l.length < 8
  ·have h0:l.length≠0:=by omega
   have hlt:=Zga l
   have hm:l.length % 8=l.length:=Nat.mod_eq_of_lt h8
   have hd:l.length / 8=0:=Nat.div_eq_of_lt h8
   have hp:2 ^ l.length*2 ^ (8-l.length)=256:=by rw[<-Nat.pow_add,show l.length+(8-l.length)=8 by omega]
   have hp2:2 ^ (8-l.length)=2*2 ^ (7-l.length):=by rw[show 8-l.length=(7-l.length)+1 by omega,Nat.pow_succ,Nat.mul_comm]
   have hv:val l*2 ^ (8-l.length)+2 ^ (8-l.length)<=256:=by
    have:=Nat.mul_le_mul_right (2 ^ (8-l.length)) (show val l+1<=2 ^ l.length from hlt)
    rw[hp,Nat.add_mul]at this
    omega
   have hpos:=Nat.two_pow_pos (7-l.length)
   have hvt:(UInt8.ofNat (val l*2 ^ (8-l.length))).toNat=val l*2 ^ (8-l.length):=by
    simp only[UInt8.toNat_ofNat']
    exact Nat.mod_eq_of_lt (by omega)
   have hbt:b.toNat<=1:=by cases b <;> decide
   have hbm:b.toNat*2 ^ (7-l.length)<=2 ^ (7-l.length):=by
    have:=Nat.mul_le_mul_right (2 ^ (7-l.length)) hbt
    omega
   rw[Zi8 h0 (by omega),hd,hm]
   refine⟨_,rfl,by rw[hvt];exact Nat.mul_mod_left _ _,by rw[hvt];omega,?_⟩
   rw[Zi8 (by simp) (by simp;omega),hvt,Zt0,List.length_append,List.length_singleton,show 8-(l.length+1)=7-l.length by omega]
   simp only[List.set_cons_zero]
   congr 2
   rw[Nat.add_mul,hp2,Nat.mul_comm 2 (val l),Nat.mul_assoc]
  ·have e:l=l.take 8++l.drop 8:=(List.take_append_drop 8 l).symm
   have h8':(l.take 8).length=8:=by rw[List.length_take];omega
   have hd:(l.drop 8).length=l.length-8:=List.length_drop ..
   obtain⟨y,hy,h1,h2,h3⟩:=ih (l.drop 8).length (by omega) (l.drop 8) (by omega) rfl
   have e1:l.length / 8=(l.drop 8).length / 8+1:=by omega
   have e2:l.length % 8=(l.drop 8).length % 8:=by omega
   have ep:Ze2 l=UInt8.ofNat (val (l.take 8))::Ze2 (l.drop 8):=by
    have:=Zd9 (l.take 8) (l.drop 8) h8'
    rwa [<-e]at this
   have ep2:Ze2 (l++[b])=UInt8.ofNat (val (l.take 8))::Ze2 (l.drop 8++[b]):=by
    have:=Zd9 (l.take 8) (l.drop 8++[b]) h8'
    rwa [<-List.append_assoc,<-e]at this
   refine⟨y,?_,by rw[e2];exact h1,by rw[e2];exact h2,?_⟩
   ·rw[e1,ep,List.getElem?_cons_succ]
    exact hy
   ·rw[e1,e2,ep,ep2,h3]
    rfl
def Zba (b:List UInt8):List Bool:=b.flatMap fun c=>Zbb 8 c.toNat
theorem Zfn (b:List UInt8):(Zba b).length=8*b.length:=by
 induction b with
 | nil=>rfl
 | cons c b ih=>
  have:Zba (c::b)=Zbb 8 c.toNat++Zba b:=rfl
  rw[this,List.length_append,Zbs,ih,List.length_cons]
  omega
theorem Zr8 (b:List UInt8):Ze2 (Zba b)=b:=by
 induction b with
 | nil=>exact Zgv
 | cons c b ih=>
  have e:Zba (c::b)=Zbb 8 c.toNat++Zba b:=rfl
  rw[e,Zd9 _ _ (Zbs _ _),ih,Ziy]
  congr 1
  apply UInt8.toNat_inj.1
  simp only[UInt8.toNat_ofNat']
  have:=c.toNat_lt
  omega
theorem Zrr (l:List Bool)(h:l.length % 8=0):Zba (Ze2 l)=l:=by
 induction hn:l.length using Nat.strongRecOn generalizing l with
 | ind n ih=>
  subst hn
  by_cases h0:l.length=0
  ·have:l=[]:=List.eq_nil_of_length_eq_zero h0
   subst this
   rw[Zgv]
   rfl
  ·have e:l=l.take 8++l.drop 8:=(List.take_append_drop 8 l).symm
   have h8:(l.take 8).length=8:=by rw[List.length_take];omega
   have hd:(l.drop 8).length=l.length-8:=List.length_drop ..
   have hlt:=Zga (l.take 8)
   rw[h8]at hlt
   have hb:=Zjb (l.take 8)
   rw[h8]at hb
   conv=>lhs;rw[e]
   rw[Zd9 _ _ h8]
   show Zbb 8 (UInt8.ofNat (val (l.take 8))).toNat++Zba (Ze2 (l.drop 8))=l
   rw[ih (l.drop 8).length (by omega) _ (by omega) rfl]
   simp only[UInt8.toNat_ofNat']
   rw[Nat.mod_eq_of_lt (by omega),hb]
   exact e.symm
def enc (s:List UInt8):List UInt8:=Ze2 (Zpw (Zap s))
theorem Zw0 (s:List UInt8):(enc s).length=((Zap s).length+7) / 8:=by
 rw[enc,Zk3,(Zie _).2]
 omega
def dec (l:List Bool):Option (List UInt8):=
 if l.length < 8/\l.all (fun b=>b)=true then some []
 else if _h6:l.length < 6 then none
 else if l.head? =some false then(dec (l.drop 6)).map (Zde.getD (val ((l.drop 1).take 5)) 0::·)
 else if _h9:l.length < 9 then none
 else if 0<=Zhx (UInt8.ofNat (val ((l.drop 1).take 8)))then none
 else(dec (l.drop 9)).map (UInt8.ofNat (val ((l.drop 1).take 8))::·)
termination_by l.length
decreasing_by
 ·simp only[List.length_drop];omega
 ·simp only[List.length_drop];omega
theorem Zj8 {l:List Bool}(h:l.length < 8)(h1:l.all (fun b=>b)=true):dec l=some []:=by rw[dec,if_pos ⟨h,h1⟩]
theorem Zqt {l:List Bool}(h:¬(l.length < 8/\l.all (fun b=>b)=true))(h6:l.length < 6):dec l=none:=by rw[dec,if_neg h,dif_pos h6]
theorem Zin {l:List Bool}(h:¬(l.length < 8/\l.all (fun b=>b)=true))(h6:¬l.length < 6)(h0:l.head? =some false):
  dec l=(dec (l.drop 6)).map (Zde.getD (val ((l.drop 1).take 5)) 0::·):=by rw[dec,if_neg h,dif_neg h6,if_pos h0]
theorem Zs1 {l:List Bool}(h:¬(l.length < 8/\l.all (fun b=>b)=true))(h6:¬l.length < 6)(h0:l.head? ≠some false)(h9:l.length < 9):dec l=none:=by
 rw[dec,if_neg h,dif_neg h6,if_neg h0,dif_pos h9]
theorem Z0w {l:List Bool}(h9:¬l.length < 9)(h0:l.head? ≠some false)(hi:0<=Zhx (UInt8.ofNat (val ((l.drop 1).take 8)))):dec l=none:=by
 rw[dec,if_neg (by omega),dif_neg (by omega),if_neg h0,dif_neg h9,if_pos hi]
theorem Zop {l:List Bool}(h9:¬l.length < 9)(h0:l.head? ≠some false)(hi:¬0<=Zhx (UInt8.ofNat (val ((l.drop 1).take 8)))):
  dec l=(dec (l.drop 9)).map (UInt8.ofNat (val ((l.drop 1).take 8))::·):=by
 rw[dec,if_neg (by omega),dif_neg (by omega),if_neg h0,dif_neg h9,if_neg hi]
theorem Zu8 {c:UInt8}(h:0<=Zhx c):∃k,Zhx c=(k:Nat)/\k < 32/\cw c=false::Zbb 5 k/\Zde.getD k 0=c:=by
 obtain⟨k,hk⟩:=Int.eq_ofNat_of_zero_le h
 have hb:=(Zfs c).2
 refine⟨k,hk,by omega,?_,?_⟩
 ·rw[cw,if_pos h,hk,Int.toNat_natCast,Zbb]
  congr 1
  rw[Nat.testBit_eq_decide_div_mod_eq,Nat.div_eq_of_lt (by omega)]
  rfl
 ·have:=often_at hk
  simp[List.getD,this]
theorem Z0x {c:UInt8}(h:¬0<=Zhx c):cw c=true::Zbb 8 c.toNat:=by
 have hc:=c.toNat_lt
 rw[cw,if_neg h,Zbb]
 congr 1
 ·rw[Nat.testBit_eq_decide_div_mod_eq,show(256+c.toNat) / 2 ^ 8=1 by omega]
  rfl
 ·have e:∀m,m<=8->Zbb m (256+c.toNat)=Zbb m c.toNat:=by
   intro m
   induction m with
   | zero=>intro _;rfl
   | succ m ih=>
    intro hm
    rw[Zbb,Zbb,ih (by omega)]
    congr 1
    have:=Nat.testBit_two_pow_add_gt (show m < 8 by omega) c.toNat
    exact this
  exact e 8 (by omega)
theorem dec_enc (s:List UInt8)(j:Nat)(hj:j < 8):dec (Zap s++List.replicate j true)=some s:=by
 induction s with
 | nil=>exact Zj8 (by simpa [Zap]using hj) (by simp[Zap])
 | cons c s ih=>
  rw[Zdv,List.append_assoc]
  by_cases h:0<=Zhx c
  ·obtain⟨k,hk,hk32,hcw,ho⟩:=Zu8 h
   have h5:=Zbs 5 k
   have hv:=Ziy 5 k
   rw[hcw]
   generalize Zbb 5 k=q at*
   rw[Zin (by simp) (by simp;omega) rfl]
   have e1:(false::q++(Zap s++List.replicate j true)).drop 6=Zap s++List.replicate j true:=by
    rw[List.drop_left' (by simp[h5])]
   have e2:((false::q++(Zap s++List.replicate j true)).drop 1).take 5=q:=by
    rw[List.cons_append,List.drop_succ_cons,List.drop_zero,List.take_left' h5]
   rw[e1,e2,ih,hv,Nat.mod_eq_of_lt (by omega),ho]
   rfl
  ·have hcw:=Z0x h
   have h8:=Zbs 8 c.toNat
   have hv:=Ziy 8 c.toNat
   have hc:=c.toNat_lt
   rw[hcw]
   generalize Zbb 8 c.toNat=q at*
   have e2:((true::q++(Zap s++List.replicate j true)).drop 1).take 8=q:=by
    rw[List.cons_append,List.drop_succ_cons,List.drop_zero,List.take_left' h8]
   have e3:UInt8.ofNat (val q)=c:=by
    rw[hv,Nat.mod_eq_of_lt (by omega)]
    simp
   rw[Zop (by simp;omega) (by simp) (by rw[e2,e3];exact h),e2,e3]
   have e1:(true::q++(Zap s++List.replicate j true)).drop 9=Zap s++List.replicate j true:=by
    rw[List.drop_left' (by simp[h8])]
   rw[e1,ih]
   rfl
theorem all_true {l:List Bool}(h:l.all (fun b=>b)=true):l=List.replicate l.length true:=by
 apply List.eq_replicate_of_mem
 intro b hb
 exact(List.all_eq_true.1 h) b hb
theorem dec_inv :∀(n:Nat) (l:List Bool),l.length=n->∀s,dec l=some s->∃j,j < 8/\l=Zap s++List.replicate j true:=by
 intro n
 induction n using Nat.strongRecOn with
 | ind n ih=>
  intro l hn s h
  by_cases h1:l.length < 8/\l.all (fun b=>b)=true
  ·rw[Zj8 h1.1 h1.2]at h
   injection h with h
   subst h
   exact⟨l.length,h1.1,by simpa [Zap]using all_true h1.2⟩
  by_cases h6:l.length < 6
  ·rw[Zqt h1 h6]at h;cases h
  by_cases h0:l.head? =some false
  ·rw[Zin h1 h6 h0]at h
   obtain⟨r,hr,rfl⟩:=Option.map_eq_some_iff.1 h
   obtain⟨j,hj,hd⟩:=ih _ (by simp only[List.length_drop];omega) (l.drop 6) rfl r hr
   refine⟨j,hj,?_⟩
   match l,h0 with
   | b::q,h0=>
    have hb:b=false:=by simpa using h0
    subst hb
    simp only[List.length_cons]at h6
    have hq:(q.take 5).length=5:=by rw[List.length_take];omega
    have hlt:=Zga (q.take 5)
    rw[hq]at hlt
    have hk:Zde[val (q.take 5)]? =some (Zde.getD (val (q.take 5)) 0):=by
     simp only[List.getD]
     rw[List.getElem?_eq_getElem (by simpa [Zde]using hlt)]
     rfl
    have hi:=Zv6 hk
    have hcw:cw (Zde.getD (val (q.take 5)) 0)=false::q.take 5:=by
     obtain⟨k,hk2,_,hcw,_⟩:=Zu8 (show 0<=Zhx (Zde.getD (val (q.take 5)) 0)by rw[hi];omega)
     have:k=val (q.take 5):=by rw[hi]at hk2;omega
     subst this
     rw[hcw]
     have:=Zjb (q.take 5)
     rw[hq]at this
     rw[this]
    show false::q=_
    rw[List.drop_succ_cons,List.drop_zero,Zdv,hcw,List.append_assoc,<-hd]
    rw[List.drop_succ_cons,List.cons_append,List.take_append_drop]
  by_cases h9:l.length < 9
  ·rw[Zs1 h1 h6 h0 h9]at h;cases h
  by_cases hi:0<=Zhx (UInt8.ofNat (val ((l.drop 1).take 8)))
  ·rw[Z0w h9 h0 hi]at h;cases h
  rw[Zop h9 h0 hi]at h
  obtain⟨r,hr,rfl⟩:=Option.map_eq_some_iff.1 h
  obtain⟨j,hj,hd⟩:=ih _ (by simp only[List.length_drop];omega) (l.drop 9) rfl r hr
  refine⟨j,hj,?_⟩
  match l,h0 with
  | [],_=>simp at h9
  | b::q,h0=>
   have hb:b=true:=by
    cases b
    ·simp at h0
    ·rfl
   subst hb
   simp only[List.length_cons]at h9
   simp only[List.drop_succ_cons,List.drop_zero]at hi⊢
   have hq:(q.take 8).length=8:=by rw[List.length_take];omega
   have hlt:=Zga (q.take 8)
   rw[hq]at hlt
   have hcw:=Z0x hi
   have e:(UInt8.ofNat (val (q.take 8))).toNat=val (q.take 8):=by
    simp only[UInt8.toNat_ofNat']
    omega
   have hb:=Zjb (q.take 8)
   rw[hq]at hb
   rw[e,hb]at hcw
   rw[Zdv,hcw,List.append_assoc,<-hd]
   rw[List.drop_succ_cons,List.cons_append,List.take_append_drop]
def Zda (b:List UInt8):Option (List UInt8):=dec (Zba b)
theorem Zw4 (s:List UInt8):Zda (enc s)=some s:=by
 unfold Zda enc
 rw[Zrr _ (Zie _).1]
 exact dec_enc s _ (by unfold Zo4;omega)
theorem Zw1 (b s:List UInt8)(h:Zda b=some s):enc s=b:=by
 obtain⟨j,hj,hl⟩:=dec_inv _ (Zba b) rfl s h
 have hlen:=Zfn b
 rw[hl,List.length_append,List.length_replicate]at hlen
 have hf:Zo4 (Zap s).length=j:=by unfold Zo4;omega
 rw[enc,Zpw,hf,<-hl,Zr8]
end
section
open Go.RowKit
theorem Zbk (a:Addr)(n:Nat):(a.add n).block=a.block:=by unfold Addr.add;split <;> rfl
theorem Zxe (a:Addr)(i j:Nat):(a.add i).add j=a.add (i+j):=by
 unfold Addr.add
 by_cases hi:i=0 <;> by_cases hj:j=0 <;> simp[hi,hj,Nat.add_assoc]
def Zab (w:World)(B size:Nat)(A:Option Addr)(n:Nat)(xs:List Value):Prop:=
 xs.length=n*size/\(0 < n->∃ad,A=some ad/\ad.block < B/\∀j u,xs[j]? =some u->w.cell? (ad.add j)=some u)
section
variable {w w':World} {B B' size n:Nat} {A:Option Addr} {xs:List Value}
theorem Zab.none_ :Zab w B size A 0 []:=⟨by simp,fun h=>absurd h (by omega)⟩
theorem Zab.at_ {k:Nat}(h:Zab w B 1 A n xs)(hk:k < n):∃ad u,A=some ad/\ad.block < B/\xs[k]? =some u/\w.cell? (ad.add k)=some u:=by
 obtain⟨ad,e,hb,hc⟩:=h.2 (by omega)
 have hl:k < xs.length:=by have:=h.1;omega
 exact⟨ad,xs[k],e,hb,List.getElem?_eq_getElem hl,hc k _ (List.getElem?_eq_getElem hl)⟩
theorem Zab.keep (h:Zab w B size A n xs)(hk:∀p:Addr,p.block < B->w'.cell? p=w.cell? p):Zab w' B size A n xs:=
 ⟨h.1,fun hn=>by
  obtain⟨ad,e,hb,hc⟩:=h.2 hn
  exact⟨ad,e,hb,fun j u hu=>(hk _ (by rw[Zbk];exact hb)).trans (hc j u hu)⟩⟩
theorem Zab.more (h:Zab w B size A n xs)(hB:B<=B'):Zab w B' size A n xs:=
 ⟨h.1,fun hn=>by
  obtain⟨ad,e,hb,hc⟩:=h.2 hn
  exact⟨ad,e,by omega,hc⟩⟩
theorem Zab.below (h:Zab w B size A n xs)(hb:Below B w w'):Zab w' B size A n xs:=h.keep fun _ hp=>hb.cell hp
theorem Zab.drew (h:Zab w B size A n xs):Zab w.drew B size A n xs:=h
theorem Zab.drewN (h:Zab w B size A n xs)(k:Nat):Zab (w.drewN k) B size A n xs:=h
theorem Zab.alloc (h:Zab w B size A n xs)(hB:B<=w.heap.size)(o:Obj):Zab (w.alloc o) B size A n xs:=h.keep fun p hp=>World.cell?_alloc_lt w o p (by omega)
theorem Zab.setCell (h:Zab w B size A n xs){p:Addr}(hB:B<=p.block)(u:Value):Zab (w.setCell p u) B size A n xs:=
 h.keep fun q hq=>World.cell?_setCell_other w p q u (fun e=>by subst e;omega)
theorem Zab.cut (h:Zab w B size A n xs){k cap:Nat}(hk:k<=n)(hc:n<=cap):
  Zab w B size (if cap=k then A else A.map (·.add (k*size))) (n-k) (xs.drop (k*size)):=by
 refine⟨by rw[List.length_drop,h.1,Nat.sub_mul],fun hn=> ?_⟩
 obtain⟨ad,rfl,hb,hcell⟩:=h.2 (by omega)
 rw[if_neg (by omega)]
 refine⟨ad.add (k*size),rfl,by rw[Zbk];exact hb,fun j u hu=> ?_⟩
 rw[Zxe]
 exact hcell _ u (by rw[<-hu,List.getElem?_drop])
theorem Zab.of_own {base:Nat}{e:TypeId}{c:Nat}(h:w.ownsRow base e size (.slice A n c) n xs):Zab w w.heap.size size A n xs:=by
 refine⟨h.1,fun hn=> ?_⟩
 obtain⟨g,cap,hv,_,hlt⟩:=h.form hn
 have hA:A=some ⟨g,0,none⟩:=by injection hv
 subst hA
 exact⟨_,rfl,hlt,h.cells (g:=g) rfl⟩
end
def Blk (w:World)(g:Nat)(t:TypeId)(cs:Array Value):Prop:=w.heap[g]? =some (.cells cs t (0,0))
section
variable {w w':World} {g:Nat} {t:TypeId} {cs:Array Value}
theorem Blk.lt (h:Blk w g t cs):g < w.heap.size:=by
 rcases Nat.lt_or_ge g w.heap.size with hlt | hge
 ·exact hlt
 ·unfold Blk at h;rw[Array.getElem?_eq_none hge]at h;cases h
theorem Blk.cell (h:Blk w g t cs)(i:Nat):w.cell? ⟨g,i,none⟩=cs[i]? :=cell_of_row w g i cs t (0,0) h
theorem Blk.frozen (h:Blk w g t cs)(i:Nat):w.frozen? ⟨g,i,none⟩=false:=by
 unfold Blk at h
 simp[World.frozen?,h]
theorem Blk.new (w:World)(t:TypeId)(cs:Array Value):Blk (w.alloc (.cells cs t)) w.heap.size t cs:=heap_alloc_new w _
theorem Blk.drew (h:Blk w g t cs):Blk w.drew g t cs:=h
theorem Blk.drewN (h:Blk w g t cs)(n:Nat):Blk (w.drewN n) g t cs:=h
theorem Blk.alloc (h:Blk w g t cs)(o:Obj):Blk (w.alloc o) g t cs:=(Below.heap_alloc w o g h.lt).trans h
theorem Blk.set_ (h:Blk w g t cs)(i:Nat)(u:Value):Blk (w.setCell ⟨g,i,none⟩ u) g t (cs.setIfInBounds i u):=by
 unfold Blk at h⊢
 simp[World.setCell,Array.getElem?_modify,h]
theorem Blk.far (h:Blk w g t cs){p:Addr}(hp:g≠p.block)(u:Value):Blk (w.setCell p u) g t cs:=(Below.heap_setCell w p u g hp).trans h
theorem Blk.below {B:Nat}(h:Blk w g t cs)(hb:Below B w w')(hg:g < B):Blk w' g t cs:=(hb.block g hg).trans h
theorem Blk.grown {row:Option Nat}(h:Blk w g t cs)(hb:w.grownBy w' row)(hg:some g≠row):Blk w' g t cs:=(hb.block g h.lt hg).trans h
theorem Blk.ne_ {g':Nat}{t':TypeId}{cs':Array Value}(h:Blk w g t cs)(h':Blk w g' t' cs')(hne:t≠t'):g≠g':=by
 rintro rfl
 unfold Blk at h h'
 rw[h]at h'
 injection h' with h'
 injection h' with _ ht
 exact hne ht
theorem Zao {base:Nat}{e:TypeId}{size n:Nat}{v:Value}{xs:List Value}(h:w.ownsRow base e size v n xs)(hg:Blk w g t cs)(hne:e≠t):v.ownBlock≠some g:=by
 rcases h.2 with⟨rfl,_⟩ | ⟨g',cap,cur,rfl,_,hh,_⟩
 ·simp[Value.ownBlock]
 ·intro he
  have:g'=g:=by simpa [Value.ownBlock]using he
  subst this
  exact Blk.ne_ (t:=e) hh hg hne rfl
end
section
variable {P:Program} (w:World)
theorem Zi4 (base:Nat)(t ty e:TypeId)(i:TypeInfo)(size:Nat)(ht:P.underlying t=some (.slice e))(hi:P.info? e=some i)
  (v:Value) (n:Nat) (xs:List Value) (hown:w.ownsRow base e size v n xs) (c:Nat):(Builtin.append_ #[t,t] ty #[v,.slice none 0 c]).run P w=.ok v w:=by
 rcases hown.2 with⟨rfl,rfl⟩ | ⟨g,cap,cur,rfl,_,_,hnc,_⟩
 ·simp[Builtin.append_,run_underlying ht,sizeOf,typeInfo,hi,Builtin.lenOf,Builtin.firstCells]
 ·simp[Builtin.append_,run_underlying ht,sizeOf,typeInfo,hi,Builtin.lenOf,Builtin.firstCells,hnc,storeCells]
theorem Zl7 (base:Nat)(t ty e:TypeId)(i:TypeInfo)(z:Value)(size bytes:Nat)(ht:P.underlying t=some (.slice e))(hi:P.info? e=some i)(hz:i.zero=some z)
  (hsize:i.size=size) (hby:i.bytes=bytes) (hzs:z.cells.size=size) (hsz:0 < size)
  (v:Value) (n:Nat) (xs:List Value) (hown:w.ownsRow base e size v n xs)
  (B:Nat) (A:Option Addr) (m c:Nat) (news:List Value) (hr:Zab w B size A m news) (h1:∀u∈news,u.oneCell'=true)
  (h63:n+m<=maxLen) (hbytes:(n+m)*bytes<=140737488355328) (hbase:base<=w.heap.size):
  ∃v' w',(Builtin.append_ #[t,t] ty #[v,.slice A m c]).run P w=.ok v' w'/\w'.ownsRow base e size v' (n+m) (xs++news)/\w.grownBy w' v.ownBlock/\
   (v'.ownBlock=v.ownBlock∨v'.ownBlock=some w.heap.size):=by
 rcases A with _ | ad
 ·have hm:m=0:=by
   rcases Nat.eq_zero_or_pos m with h0 | h0
   ·exact h0
   ·obtain⟨ad,h,_⟩:=hr.2 h0
    cases h
  subst hm
  have hn:news=[]:=List.eq_nil_of_length_eq_zero (by simpa using hr.1)
  subst hn
  exact⟨v,w,Zi4 w base t ty e i size ht hi v n xs hown c,by simpa using hown,World.grownBy.refl w _,.inl rfl⟩
 ·have hcells:∀j u,news[j]? =some u->w.cell? (ad.add j)=some u:=by
   intro j u hu
   rcases Nat.eq_zero_or_pos m with h0 | h0
   ·subst h0
    have hn:news=[]:=List.eq_nil_of_length_eq_zero (by simpa using hr.1)
    subst hn
    simp at hu
   ·obtain⟨ad',h,_,hc⟩:=hr.2 h0
    injection h with h
    subst h
    exact hc j u hu
  obtain⟨v',w',hrun,h2,h3,_,h5⟩:=run_append_own_at (P:=P) w base t ty e i z size bytes ht hi hz hsize hby hzs hsz v n xs hown ad m c news hr.1 hcells h1 h63 hbytes hbase
  exact⟨v',w',hrun,h2,h3,h5⟩
theorem Zh4 {o:Oper}{a:Act}{K:Act->World->Prop}{Q:Exit->Act->World->Prop}(s x:Operand)(t:TypeId)
  (ho:o.op=.call {callee:=.builtin .append,args:= #[s,x],argTypes:= #[t,t]})
  (base:Nat) (e:TypeId) (i:TypeInfo) (z:Value) (size bytes:Nat) (ht:P.underlying t=some (.slice e)) (hi:P.info? e=some i) (hz:i.zero=some z)
  (hsize:i.size=size) (hby:i.bytes=bytes) (hzs:z.cells.size=size) (hsz:0 < size)
  (v:Value) (n:Nat) (xs:List Value) (hs:a.eval s=v) (hown:w.ownsRow base e size v n xs)
  (B:Nat) (A:Option Addr) (m c:Nat) (news:List Value) (hx:a.eval x=.slice A m c) (hr:Zab w B size A m news) (h1:∀u∈news,u.oneCell'=true)
  (h63:n+m<=maxLen) (hbytes:(n+m)*bytes<=140737488355328) (hbase:base<=w.heap.size)
  (h:∀v' w',w'.ownsRow base e size v' (n+m) (xs++news)->w.grownBy w' v.ownBlock->(v'.ownBlock=v.ownBlock∨v'.ownBlock=some w.heap.size)->K (a.put o.dst v') w'):o.wp P a w K Q:=by
 obtain⟨v',w',hrun,h2,h3,h4⟩:=Zl7 (P:=P) w base t o.type e i z size bytes ht hi hz hsize hby hzs hsz v n xs hown B A m c news hr h1 h63 hbytes hbase
 unfold Oper.wp execOp
 simp only[ho,resolve,invoke,builtin,Sem.run_bind,Sem.run_pure,Result.andThen_ok,List.map_toArray,List.map_cons,List.map_nil,hs,hx,hrun]
 exact h v' w' h2 h3 h4
theorem Zah {ops:Array Oper}{rest:List Oper}{o:Oper}{a:Act}{Q:Exit->Act->World->Prop}(hgd:o.guard=none)(s x:Operand)(t:TypeId)
  (ho:o.op=.call {callee:=.builtin .append,args:= #[s,x],argTypes:= #[t,t]})
  (base:Nat) (e:TypeId) (i:TypeInfo) (z:Value) (size bytes:Nat) (ht:P.underlying t=some (.slice e)) (hi:P.info? e=some i) (hz:i.zero=some z)
  (hsize:i.size=size) (hby:i.bytes=bytes) (hzs:z.cells.size=size) (hsz:0 < size)
  (v:Value) (n:Nat) (xs:List Value) (hs:a.eval s=v) (hown:w.ownsRow base e size v n xs)
  (B:Nat) (A:Option Addr) (m c:Nat) (news:List Value) (hx:a.eval x=.slice A m c) (hr:Zab w B size A m news) (h1:∀u∈news,u.oneCell'=true)
  (h63:n+m<=maxLen) (hbytes:(n+m)*bytes<=140737488355328) (hbase:base<=w.heap.size)
  (h:∀v' w',w'.ownsRow base e size v' (n+m) (xs++news)->w.grownBy w' v.ownBlock->(v'.ownBlock=v.ownBlock∨v'.ownBlock=some w.heap.size)->wpList P ops Q rest (a.put o.dst v') w'):wpList P ops Q (o::rest) a w:=
 wpList_plain hgd fun _ hK=>Zh4 w s x t ho base e i z size bytes ht hi hz hsize hby hzs hsz v n xs hs hown B A m c news hx hr h1 h63 hbytes hbase fun v' w' h2 h3 h4=>hK _ _ (h v' w' h2 h3 h4)
theorem Zkm {ops:Array Oper}{o:Oper}{a:Act}{K:Act->World->Prop}{Q:Exit->Act->World->Prop}{E:Prop}(hgd:o.guard=none)(s x:Operand)(t:TypeId)
  (ho:o.op=.call {callee:=.builtin .append,args:= #[s,x],argTypes:= #[t,t]})
  (base:Nat) (e:TypeId) (i:TypeInfo) (z:Value) (size bytes:Nat) (ht:P.underlying t=some (.slice e)) (hi:P.info? e=some i) (hz:i.zero=some z)
  (hsize:i.size=size) (hby:i.bytes=bytes) (hzs:z.cells.size=size) (hsz:0 < size)
  (v:Value) (n:Nat) (xs:List Value) (hs:a.eval s=v) (hown:w.ownsRow base e size v n xs)
  (B:Nat) (A:Option Addr) (m c:Nat) (news:List Value) (hx:a.eval x=.slice A m c) (hr:Zab w B size A m news) (h1:∀u∈news,u.oneCell'=true)
  (h63:n+m<=maxLen) (hbytes:(n+m)*bytes<=140737488355328) (hbase:base<=w.heap.size)
  (h:∀v' w',w'.ownsRow base e size v' (n+m) (xs++news)->w.grownBy w' v.ownBlock->(v'.ownBlock=v.ownBlock∨v'.ownBlock=some w.heap.size)->K (a.put o.dst v') w'):
  if Region.wanted o (yielded ops a.tmps)=true then Oper.wp P o a w K Q else E:=by
 have hw:Region.wanted o (yielded ops a.tmps)=true:=by simp[Region.wanted,hgd]
 rw[if_pos hw]
 exact Zh4 w s x t ho base e i z size bytes ht hi hz hsize hby hzs hsz v n xs hs hown B A m c news hx hr h1 h63 hbytes hbase h
end
section
variable {w w':World} {B B' size n:Nat} {A:Option Addr} {xs:List Value}
theorem Zab.form (h:Zab w B 1 A n xs)(hn:0 < n):∃b off,A=some ⟨b,off,none⟩/\b < B/\∀k u,xs[k]? =some u->w.cell? ⟨b,off+k,none⟩=some u:=by
 obtain⟨ad,u0,rfl,hb,hx,hc⟩:=h.at_ (k:=0) hn
 obtain⟨b,off,spot⟩:=ad
 have hspot:spot=none:=by simpa [Addr.add]using World.cell?_spot hc
 subst hspot
 refine⟨b,off,rfl,hb,fun k u hu=> ?_⟩
 obtain⟨ad,e,_,hcell⟩:=h.2 hn
 injection e with e
 subst e
 have:=hcell k u hu
 rwa [Addr.add_lit]at this
theorem Zab.take {k:Nat}(h:Zab w B 1 A n xs)(hk:k<=n):Zab w B 1 A k (xs.take k):=by
 refine⟨by rw[List.length_take,h.1];omega,fun h0=> ?_⟩
 obtain⟨ad,e,hb,hc⟩:=h.2 (by omega)
 refine⟨ad,e,hb,fun j u hu=>hc j u ?_⟩
 rw[List.getElem?_take]at hu
 split at hu
 ·exact hu
 ·cases hu
end
def bs (l:List UInt8):List Value:=l.map fun c=> .int .u8 (c.toNat:Int)
theorem Zq5 (l:List UInt8):(bs l).length=l.length:=by simp[bs]
theorem Za1 (a b:List UInt8):bs (a++b)=bs a++bs b:=by simp[bs]
theorem Zfy (l:List UInt8)(k:Nat):(bs l).drop k=bs (l.drop k):=by simp[bs]
theorem Zov (l:List UInt8)(k:Nat):(bs l).take k=bs (l.take k):=by simp[bs]
theorem Zxa (l:List UInt8){k:Nat}(h:k < l.length):(bs l)[k]? =some (.int .u8 (l[k].toNat:Int)):=by simp[bs,h]
theorem Zit (l:List UInt8):∀u∈bs l,u.oneCell'=true:=by
 intro u hu
 obtain⟨c,_,rfl⟩:=List.mem_map.1 hu
 rfl
theorem Zbm {w:World}{B:Nat}{A:Option Addr}{l:List UInt8}(h:Zab w B 1 A l.length (bs l)){k:Nat}(hk:k < l.length):
  ∃b off,A=some ⟨b,off,none⟩/\b < B/\w.cell? ⟨b,off+k,none⟩=some (.int .u8 (l[k].toNat:Int)):=by
 obtain⟨b,off,rfl,hb,hc⟩:=h.form (by omega)
 exact⟨b,off,rfl,hb,hc k _ (Zxa l hk)⟩
def IsBytes (w:World)(B:Nat)(v:Value)(l:List UInt8):Prop:=∃A c,v=.slice A l.length c/\l.length<=c/\Zab w B 1 A l.length (bs l)
theorem Zbl {base:Nat}{a w w':World}{v:Value}{e:TypeId}{size n:Nat}{xs:List Value}(hb:Below base a w)(hown:w.ownsRow base e size v n xs)(hg:w.grownBy w' v.ownBlock)(hB:base<=w.heap.size):Below base a w':=
 hb.grown hg hB fun k hk=>(hown.lt k hk).1
theorem Zhk {w:World}{base:Nat}{e:TypeId}{v:Value}{l:List UInt8}(h:w.ownsRow base e 1 v l.length (bs l)):IsBytes w w.heap.size v l:=by
 have hr:∀A c,v=.slice A l.length c->Zab w w.heap.size 1 A l.length (bs l):=fun A c e=>by subst e;exact Zab.of_own h
 rcases h.2 with⟨rfl,h0⟩ | ⟨g,cap,cur,rfl,_,_,hn,_⟩
 ·have e0:l.length=0:=h0
  exact⟨none,0,by rw[e0],by omega,hr _ _ (by rw[e0])⟩
 ·exact⟨_,_,rfl,hn,hr _ _ rfl⟩
end
section
open Go.RowKit
theorem Zbz :(prog.info? 5).map (fun i=>(i.zero,i.size,i.bytes))=some (some (.int .u8 0),1,1):=by kernel_rfl
theorem Zdb {ops:Array Oper}{rest:List Oper}{o:Oper}{a:Act}{Q:Exit->Act->World->Prop}{w:World}{u:Value}(hgd:o.guard=none)(s x:Operand)
  (ho:o.op=.call {callee:=.builtin .append,args:= #[s,x],argTypes:= #[23,23]})
  (base:Nat) (v:Value) (n:Nat) (xs:List Value) (hs:a.eval s=v) (hown:w.ownsRow base 5 1 v n xs)
  (hx:a.eval x=.slice (some ⟨w.heap.size,0,none⟩) 1 1) (h1:u.oneCell'=true) (hn:n+1<=140737488355328) (hbase:base<=w.heap.size)
  (h:∀v' w',w'.ownsRow base 5 1 v' (n+1) (xs++[u])->Below base w w'->wpList prog ops Q rest (a.put o.dst v') w'):wpList prog ops Q (o::rest) a (w.alloc (.cells #[u] 5)):=by
 obtain⟨i0,hi,hz0,hz1,hz2⟩:=info_parts Zbz
 refine wpList_append_own _ hgd s x 23 ho base 5 i0 (.int .u8 0) 1 1 underlying23 hi hz0 hz1 hz2 rfl (by decide) v n xs hs (hown.alloc _) ⟨w.heap.size,0,none⟩ 1 1 [u] hx rfl (cell_one_new _ _ _) (by simpa using h1) (by simp only[maxLen];omega) (by omega) (by simp;omega) ?_
 intro v' w' hown' hg _
 exact h v' w' hown' (Zbl ((Below.refl _ _).alloc hbase _) (hown.alloc _) hg (by simp;omega))
theorem Zhr {ops:Array Oper}{rest:List Oper}{o:Oper}{a:Act}{Q:Exit->Act->World->Prop}{w:World}(hgd:o.guard=none)(s x:Operand)
  (ho:o.op=.call {callee:=.builtin .append,args:= #[s,x],argTypes:= #[23,23]})
  (base:Nat) (v:Value) (n:Nat) (xs:List Value) (hs:a.eval s=v) (hown:w.ownsRow base 5 1 v n xs)
  (B:Nat) (A:Option Addr) (m c:Nat) (news:List Value) (hx:a.eval x=.slice A m c) (hr:Zab w B 1 A m news) (h1:∀u∈news,u.oneCell'=true) (hn:n+m<=140737488355328) (hbase:base<=w.heap.size)
  (h:∀v' w',w'.ownsRow base 5 1 v' (n+m) (xs++news)->Below base w w'->wpList prog ops Q rest (a.put o.dst v') w'):wpList prog ops Q (o::rest) a w:=by
 obtain⟨i0,hi,hz0,hz1,hz2⟩:=info_parts Zbz
 refine Zah _ hgd s x 23 ho base 5 i0 (.int .u8 0) 1 1 underlying23 hi hz0 hz1 hz2 rfl (by decide) v n xs hs hown B A m c news hx hr h1 (by simp only[maxLen];omega) (by omega) hbase ?_
 intro v' w' hown' hg _
 exact h v' w' hown' (Zbl (Below.refl _ _) hown hg hbase)
theorem Zhv (w:World)(C:Array Value)(e:TypeId)(xs:List Value)(n:Nat)(h:C.toList=xs)(hn:xs.length=n)(hm:n<=maxLen):
  (w.alloc (.cells C e)).ownsRow w.heap.size e 1 (.slice (some ⟨w.heap.size,0,none⟩) n n) n xs:=by
 have hC:C.size=n:=by rw[<-hn,<-h];simp
 exact⟨by omega,.inr ⟨w.heap.size,n,C,rfl,Nat.le_refl _,heap_alloc_new w _,Nat.le_refl _,hm,by omega,by rw[h,<-hn];simp⟩⟩
end
section
def most (s:Nat):Nat:=if s=4 then 2147483647 else 256 ^ s-1
def Zaz (l:List UInt8):Nat:=l.foldl (fun n c=>n*256+c.toNat) 0
def Zar :Nat->Nat->List UInt8
 | 0,_=> []
 | s+1,n=>UInt8.ofNat (n / 256 ^ s)::Zar s n
theorem Zbj (s n:Nat):(Zar s n).length=s:=by
 induction s with
 | zero=>rfl
 | succ s ih=>simp[Zar,ih]
theorem Zq7 (a:List UInt8)(c:UInt8):Zaz (a++[c])=Zaz a*256+c.toNat:=by simp[Zaz]
theorem foldl_be (l:List UInt8):∀n:Nat,l.foldl (fun n c=>n*256+c.toNat) n=n*256 ^ l.length+Zaz l:=by
 induction l with
 | nil=>intro n;simp[Zaz]
 | cons c r ih=>
  intro n
  simp only[List.foldl_cons,List.length_cons,Zaz,Nat.zero_mul,Nat.zero_add]
  rw[ih,ih c.toNat,Nat.pow_succ]
  rw[Nat.add_mul,Nat.mul_assoc,Nat.mul_comm 256,Nat.add_assoc]
theorem Zm9 (c:UInt8)(l:List UInt8):Zaz (c::l)=c.toNat*256 ^ l.length+Zaz l:=by
 have h:=foldl_be l c.toNat
 simpa [Zaz]using h
theorem beNat_lt (l:List UInt8):Zaz l < 256 ^ l.length:=by
 induction l with
 | nil=>simp[Zaz]
 | cons c r ih=>
  rw[Zm9,List.length_cons,Nat.pow_succ]
  have:=c.toNat_lt
  have h1:c.toNat*256 ^ r.length<=255*256 ^ r.length:=Nat.mul_le_mul_right _ (by omega)
  omega
theorem Zlt (l:List UInt8)(k:Nat)(h:k < l.length):Zaz (l.take (k+1))=Zaz (l.take k)*256+l[k].toNat:=by
 rw[List.take_succ_eq_append_getElem h,Zq7]
theorem Zq6 (l:List UInt8)(k:Nat)(h:l.length<=k):Zaz l < 256 ^ k:=
 Nat.lt_of_lt_of_le (beNat_lt l) (Nat.pow_le_pow_right (by omega) h)
theorem Zf0 (l:List UInt8)(k:Nat):Zaz (l.take k) < 256 ^ k:=Zq6 _ _ (List.length_take_le _ _)
theorem Zlu (s n:Nat)(h:n < 256 ^ s):Zaz (Zar s n)=n:=by
 induction s generalizing n with
 | zero=>simp at h;simp[Zar,Zaz,h]
 | succ s ih=>
  have aux:∀m,Zaz (Zar s m)=m % 256 ^ s:=by
   intro m
   have e:∀t m,t<=s->Zar t m=Zar t (m % 256 ^ s):=by
    intro t
    induction t with
    | zero=>intro m _;rfl
    | succ t iht=>
     intro m ht
     have h1:(256:Nat) ^ s=256 ^ t*(256*256 ^ (s-t-1)):=by
      rw[<-Nat.pow_succ',<-Nat.pow_add]
      congr 1
      omega
     have h2:m % 256 ^ s / 256 ^ t=m / 256 ^ t % (256*256 ^ (s-t-1)):=by
      rw[h1,Nat.mod_mul_right_div_self]
     have h3:UInt8.ofNat (m / 256 ^ t)=UInt8.ofNat (m % 256 ^ s / 256 ^ t):=by
      rw[h2]
      apply UInt8.toNat_inj.1
      simp only[UInt8.toNat_ofNat']
      rw[Nat.mod_mul_right_mod]
     simp only[Zar]
     rw[h3,<-iht m (by omega)]
   rw[e s m (Nat.le_refl _)]
   exact ih _ (Nat.mod_lt _ (Nat.pow_pos (by omega)))
  simp only[Zar]
  rw[Zm9,Zbj,aux]
  have h4:n / 256 ^ s < 256:=by
   rw[Nat.pow_succ,Nat.mul_comm]at h
   exact Nat.div_lt_of_lt_mul (by rw[Nat.mul_comm];exact h)
  simp only[UInt8.toNat_ofNat']
  rw[Nat.mod_eq_of_lt (by simpa using h4),Nat.mul_comm]
  exact Nat.div_add_mod n (256 ^ s)
end
section
open Go.RowKit
theorem Zn8 (a:Nat)(ha:a < 9223372036854775808):(BitVec.ofInt 64 (a:Int)).toNat=a:=by
 rw[BitVec.ofInt_natCast,BitVec.toNat_ofNat];exact Nat.mod_eq_of_lt (by omega)
theorem Zjl (a:Nat)(ha:a < 256):(BitVec.ofInt 8 (a:Int)).toNat=a:=by
 rw[BitVec.ofInt_natCast,BitVec.toNat_ofNat];exact Nat.mod_eq_of_lt (by omega)
theorem Zg2 (x t:Nat)(hx:x < 4611686018427387904)(ht:t<=61):bits .and .i64 (x:Int) ((2 ^ t:Nat)-1)=((x % 2 ^ t:Nat):Int):=by
 have hp:2 ^ t<=2 ^ 61:=Nat.pow_le_pow_right (by omega) ht
 have hp1:1<=2 ^ t:=Nat.one_le_two_pow
 have e:((2 ^ t:Nat):Int)-1=((2 ^ t-1:Nat):Int):=by omega
 rw[e]
 show IntKind.i64.wrap ((BitVec.ofInt 64 (x:Int) &&& BitVec.ofInt 64 ((2 ^ t-1:Nat):Int)).toNat:Int)=_
 rw[BitVec.toNat_and,Zn8 x (by omega),Zn8 _ (by omega),Nat.and_two_pow_sub_one_eq_mod,IntKind.wrap_i64]
 have:=Nat.mod_lt x (show 0 < 2 ^ t by omega)
 omega
theorem Zg1 (x y t:Nat)(hx:x*2 ^ t < 4611686018427387904)(hy:y < 2 ^ t)(ht:t<=61):bits .or .i64 ((x*2 ^ t:Nat):Int) (y:Int)=((x*2 ^ t+y:Nat):Int):=by
 have hp:2 ^ t<=2 ^ 61:=Nat.pow_le_pow_right (by omega) ht
 show IntKind.i64.wrap ((BitVec.ofInt 64 ((x*2 ^ t:Nat):Int) ||| BitVec.ofInt 64 (y:Int)).toNat:Int)=_
 rw[BitVec.toNat_or,Zn8 _ (by omega),Zn8 y (by omega)]
 have h3:x*2 ^ t ||| y=x*2 ^ t+y:=by
  have:=Nat.shiftLeft_add_eq_or_of_lt hy x
  rw[show x*2 ^ t=x <<< t from by rw[Nat.shiftLeft_eq]]
  exact this.symm
 rw[h3,IntKind.wrap_i64]
 omega
theorem Zh6 (y:Nat)(h:y < 256):bits .and .u8 (y:Int) 127=((y % 128:Nat):Int):=by
 have h1:(127:Int)=((2 ^ 7-1:Nat):Int):=by decide
 rw[h1]
 show IntKind.u8.wrap ((BitVec.ofInt 8 (y:Int) &&& BitVec.ofInt 8 ((2 ^ 7-1:Nat):Int)).toNat:Int)=_
 rw[BitVec.toNat_and,Zjl y h,Zjl _ (by decide),Nat.and_two_pow_sub_one_eq_mod,IntKind.wrap_u8]
 omega
theorem Zvj (y:Nat)(h:y < 256):bits .or .u8 (y:Int) 128=((y % 128+128:Nat):Int):=by
 have h1:(128:Int)=((128:Nat):Int):=by decide
 rw[h1]
 show IntKind.u8.wrap ((BitVec.ofInt 8 (y:Int) ||| BitVec.ofInt 8 ((128:Nat):Int)).toNat:Int)=_
 rw[BitVec.toNat_or,Zjl y h,Zjl _ (by decide),IntKind.wrap_u8]
 have hall:∀y:Fin 256,y.val ||| 128=y.val % 128+128:=by decide+kernel
 rw[hall ⟨y,h⟩]
 show((y % 128+128:Nat):Int) % 256=_
 omega
end
end Go.Proofs.YtbgnggkgmeagkaaGreatDoor
