/-
  A part of the proof of TopAlike: each theorem states its own conditions.
-/
import Derived.Test.YtbgnggkgmeagkaaGreatDoorMTopAlike01
import Derived.BigRegion
import Derived.ChangeAlike
import Derived.Deep.QuietTactic
import Derived.BigQuiet
import Derived.Lib.Bytealg
import Derived.Laws.StandIn
import Derived.Lib.ConvBytes
set_option linter.unusedSimpArgs false
set_option linter.unusedVariables false
set_option maxRecDepth 100000
set_option maxHeartbeats 16000000
namespace Go.Proofs.YtbgnggkgmeagkaaGreatDoor
open Go.Proofs.Tryz
section
open Go.RowKit
structure Zac (B g:Nat)(w w':World):Prop where
 os:w'.os=w.os
 tape:w'.tape=w.tape
 output:w'.output=w.output
 size:w.heap.size<=w'.heap.size
 block:∀k,k < B->k≠g->w'.heap[k]? =w.heap[k]?
theorem Zac.refl (B g:Nat)(w:World):Zac B g w w:=⟨rfl,rfl,rfl,Nat.le_refl _,fun _ _ _=>rfl⟩
theorem Zac.trans {B g:Nat}{a b c:World}(h:Zac B g a b)(k:Zac B g b c):Zac B g a c:=
 ⟨k.os.trans h.os,k.tape.trans h.tape,k.output.trans h.output,Nat.le_trans h.size k.size,fun i hi hg=>(k.block i hi hg).trans (h.block i hi hg)⟩
theorem Zac.of {B g:Nat}{a b:World}(h:Below B a b):Zac B g a b:=⟨h.os,h.tape,h.output,h.size,fun k hk _=>h.block k hk⟩
theorem Zac.drew {B g:Nat}{a b:World}(h:Zac B g a b):Zac B g a b.drew:=⟨h.os,h.tape,h.output,h.size,h.block⟩
theorem Zac.drewN {B g:Nat}{a b:World}(h:Zac B g a b)(n:Nat):Zac B g a (b.drewN n):=⟨h.os,h.tape,h.output,h.size,h.block⟩
theorem Zac.setCell {B g:Nat}{a b:World}(h:Zac B g a b){p:Addr}(hp:p.block=g∨B<=p.block)(u:Value):Zac B g a (b.setCell p u):=
 h.trans ⟨rfl,rfl,rfl,by simp[World.setCell],fun k hk hg=>Below.heap_setCell _ _ _ _ (by rcases hp with hp | hp <;> omega)⟩
theorem Zac.below {B B' g:Nat}{a b:World}(h:Zac B g a b)(hB:B'<=B)(hg:B'<=g):Below B' a b:=⟨h.os,h.tape,h.output,h.size,fun k hk=>h.block k (by omega) (by omega)⟩
theorem Zac.cell {B g:Nat}{a b:World}(h:Zac B g a b){p:Addr}(hp:p.block < B)(hg:p.block≠g):b.cell? p=a.cell? p:=World.cell?_of_block (w:=a) (h.block p.block hp hg)
theorem idx_any (c:UInt8)(w:World):
  CA 78 #[.string ⟨Zde.toArray⟩,.int .u8 (c.toNat:Int)] w fun e w'=>e=.returned (.int .i64 (Zhx c))/\w=w':=by
 have hx:= @run_callFunc_indexByte prog 201 _ func201 (by kernel_rfl) (by kernel_rfl) (by kernel_rfl) (by kernel_rfl)
 have hr:=fun W=>Lib.run_indexByteString (P:=prog) ⟨Zde.toArray⟩ (c.toNat:Int) W
 have ho:Lib.indexByte (ByteArray.mk Zde.toArray).data.toList ((c.toNat:Int)).toNat.toUInt8=Zhx c:=by
  simp[Zhx]
 rw[ho]at hr
 go_enter func78,ntmps78
 go_wp2
 go_ret
 exact⟨rfl,rfl⟩
theorem own_set {w:World}{base:Nat}{e:TypeId}{q n c:Nat}{xs:List Value}(h:w.ownsRow base e 1 (.slice (some ⟨q,0,none⟩) n c) n xs)(k:Nat)(hk:k < n)(u:Value):
  (w.setCell ⟨q,k,none⟩ u).ownsRow base e 1 (.slice (some ⟨q,0,none⟩) n c) n (xs.set k u):=by
 obtain⟨h1,h2⟩:=h
 refine⟨by simpa using h1,?_⟩
 rcases h2 with⟨h2,_⟩ | ⟨g,cap,cur,hv,hg,hh,hn,hm,hs,ht⟩
 ·cases h2
 ·injection hv with hv1 _ hv3
  injection hv1 with hv1
  injection hv1 with hv1
  subst hv1 hv3
  refine .inr ⟨q,c,cur.setIfInBounds k u,rfl,hg,Blk.set_ hh k u,hn,hm,by simpa using hs,?_⟩
  rw[Array.toList_setIfInBounds,List.take_set,ht]
theorem Zum {w:World}{base:Nat}{e:TypeId}{q n c:Nat}{xs:List Value}(h:w.ownsRow base e 1 (.slice (some ⟨q,0,none⟩) n c) n xs){k:Nat}{u:Value}(hk:xs[k]? =some u):
  w.cell? ⟨q,k,none⟩=some u/\w.frozen? ⟨q,k,none⟩=false:=by
 refine⟨by simpa [Addr.add_lit]using h.cells (g:=q) rfl k u hk,?_⟩
 rcases h.2 with⟨h2,_⟩ | ⟨g,cap,cur,hv,hg,hh,_⟩
 ·cases h2
 ·injection hv with hv1
  injection hv1 with hv1
  injection hv1 with hv1
  subst hv1
  exact Blk.frozen hh k
theorem Zr9 {w:World}{base:Nat}{e:TypeId}{size n:Nat}{v:Value}{xs:List Value}(h:w.ownsRow base e size v n xs){p:Addr}(hp:p.block < base)(u:Value):(w.setCell p u).ownsRow base e size v n xs:=
 ownsRow_setCell_below h hp u
theorem Zo8 (y r:Nat)(b:Bool)(hy:y < 256)(hr:r < 8)(h0:y % 2 ^ (8-r)=0):bits .or .u8 (y:Int) ((b.toNat:Int)*2 ^ (7-r) % 256)=((y+b.toNat*2 ^ (7-r):Nat):Int):=by
 have hb:b.toNat<=1:=by cases b <;> decide
 have hall:∀y:Fin 256,∀r:Fin 8,∀b:Fin 2,y.val % 2 ^ (8-r.val)=0->(y.val ||| b.val*2 ^ (7-r.val))=y.val+b.val*2 ^ (7-r.val)/\y.val+b.val*2 ^ (7-r.val) < 256/\b.val*2 ^ (7-r.val) < 256:=by decide+kernel
 obtain⟨h1,h2,h3⟩:=hall ⟨y,hy⟩ ⟨r,hr⟩ ⟨b.toNat,by omega⟩ h0
 simp only at h1 h2 h3
 have e:((b.toNat:Int)*2 ^ (7-r) % 256)=((b.toNat*2 ^ (7-r):Nat):Int):=by
  have:((b.toNat:Int)*2 ^ (7-r))=((b.toNat*2 ^ (7-r):Nat):Int):=by simp
  rw[this]
  omega
 rw[e]
 show IntKind.u8.wrap ((BitVec.ofInt 8 (y:Int) ||| BitVec.ofInt 8 ((b.toNat*2 ^ (7-r):Nat):Int)).toNat:Int)=_
 rw[BitVec.toNat_or,Zjl y hy,Zjl _ h3,h1,IntKind.wrap_u8]
 omega
theorem i64_bit (x i:Nat)(hx:x < 512):bits .and .i64 ((x:Int) / 2 ^ i) 1=((x.testBit i).toNat:Int):=by
 have e:(x:Int) / 2 ^ i=((x / 2 ^ i:Nat):Int):=by simp
 have h1:x / 2 ^ i<=x:=Nat.div_le_self ..
 have:=Zg2 (x / 2 ^ i) 1 (by omega) (by omega)
 rw[e,Nat.toNat_testBit]
 simpa using this
def Zto (w:World)(B g:Nat)(bl:List Bool):Prop:=∃v,Blk w g 298 #[v,.int .i64 (bl.length:Int)]/\w.ownsRow B 5 1 v (Ze2 bl).length (bs (Ze2 bl))/\B<=w.heap.size
theorem Zy9 (l:List Bool)(b:Bool)(h:l.length % 8=0):(Ze2 l).length=l.length / 8:=by rw[Zk3];omega
theorem Zub {W:World}{B g q C n:Nat}{bl:List Bool}{b:Bool}{ys:List UInt8}(hn:n=ys.length)(hg:g < B)(hB:B<=W.heap.size)
  (hb:Blk W g 298 #[.slice (some ⟨q,0,none⟩) n C,.int .i64 (bl.length:Int)])
  (hown:W.ownsRow B 5 1 (.slice (some ⟨q,0,none⟩) n C) n (bs ys)) (hq:B<=q) (hk:bl.length / 8 < n) (z:Nat) (hz:z < 256)
  (hp:Ze2 (bl++[b])=ys.set (bl.length / 8) (UInt8.ofNat z)):
  Zto (((W.setCell ⟨q,bl.length / 8,none⟩ (.int .u8 (z:Int))).setCell ⟨g,1,none⟩ (.int .i64 ((bl.length:Int)+1))).drew) B g (bl++[b]):=by
 subst hn
 have hl:(Ze2 (bl++[b])).length=ys.length:=by rw[hp];simp
 refine⟨.slice (some ⟨q,0,none⟩) ys.length C,?_,?_,by simpa [World.setCell]using hB⟩
 ·have h1:=(((hb.far (p:=⟨q,bl.length / 8,none⟩) (by show g≠q;omega) (.int .u8 (z:Int)))).set_ 1 (.int .i64 ((bl.length:Int)+1))).drew
  simpa using h1
 ·rw[hl,hp]
  have h2:=own_set hown (bl.length / 8) hk (.int .u8 (z:Int))
  have e:(bs ys).set (bl.length / 8) (.int .u8 (z:Int))=bs (ys.set (bl.length / 8) (UInt8.ofNat z)):=by
   simp only[bs,List.map_set]
   congr 2
   simp only[UInt8.toNat_ofNat']
   omega
  rw[e]at h2
  exact Zr9 h2 (p:=⟨g,1,none⟩) hg _
theorem Zr3 (x many g B:Nat)(bl:List Bool)(w:World)(hx:x < 512)(hm:many<=9)(hl:bl.length<=1099511627776)(hg:g < B)(hR:Zto w B g bl):
  CA 206 #[.pointer (some ⟨g,0,none⟩),.int .i64 x,.int .i64 many] w fun e w'=>e=.returned (.tuple #[])/\Zto w' B g (bl++Zbb many x)/\Zac B g w w':=by
 go_enter func206,ntmps206
 go_wp2
 go_loopw [6] (fun i wr=>∃(m:Nat) (pre:List Bool),m<=many/\i=.int .i64 ((m:Int)-1)/\Hid (Zbb many x=pre++Zbb m x)/\pre.length+m=many/\Zto wr B g (bl++pre)/\Zac B g w wr) (fun i _=>(intOf i+1).toNat)
 case atStart=>exact⟨many,[],Nat.le_refl _,rfl,rfl,by simp,by simpa using hR,Zac.refl _ _ _⟩
 case round=>
  obtain⟨m,pre,hmm,rfl,HP,hpl,hRr,hbb⟩:=hrel
  clear hR
  rcases m with _ | i
  ·have e:=HP.out
   simp only[Zbb,List.append_nil]at e
   have HE:=Hd e
   clear e HP
   go_wp2
   go_end0
   exact⟨rfl,by rw[HE.out];exact hRr,hbb⟩
  ·have ei:(((i+1:Nat):Int)-1)=(i:Int):=by omega
   rw[ei]
   have e:=HP.out
   rw[Zbb,List.append_cons]at e
   have HE:=Hd e
   clear e HP ei
   obtain⟨v,hblk,hown,hBs⟩:=hRr
   have hn:(bl++pre).length<=1099511627785:=by rw[List.length_append];omega
   have HA:=Hd (i64_bit x i hx)
   generalize hN:bl++pre=N at*
   have hc1:=hblk.cell 1
   have hc0:=hblk.cell 0
   have hf0:=hblk.frozen 0
   have hf1:=hblk.frozen 1
   simp at hc0 hc1
   have hb1:(x.testBit i).toNat<=1:=by cases x.testBit i <;> decide
   have i8:i<=8:=by omega
   by_cases h8:N.length % 8=0
   ·have hpk:=Zn6 N (x.testBit i) h8
    have hlen:=Zy9 N (x.testBit i) h8
    have HK:Hid (Ze2 (N++[x.testBit i])=(Ze2 N++[0]).set (N.length / 8) (UInt8.ofNat (0+(x.testBit i).toNat*2 ^ (7-N.length % 8)))):=by
     show _=_
     rw[hpk,<-hlen,List.set_append_right _ _ (Nat.le_refl _),Nat.sub_self,h8]
     simp
    have hO:bits .or .u8 (0:Int) (((x.testBit i).toNat:Int)*2 ^ (7-N.length % 8) % 256)=((0+(x.testBit i).toNat*2 ^ (7-N.length % 8):Nat):Int):=Zo8 0 (N.length % 8) (x.testBit i) (by decide) (by omega) (Nat.zero_mod _)
    have hz:0+(x.testBit i).toNat*2 ^ (7-N.length % 8) < 256:=by
     rw[h8]
     omega
    have HO:=Hd hO
    have h8':(((N.length:Int) % 8)==0)=true:=by simp;omega
    have hbound:(Ze2 N).length+1<=140737488355328:=by omega
    have HLEN:=Hd hlen
    have hA:=HA.out
    clear HA hpk h8 hlen hO
    generalize x.testBit i=b at*
    generalize 0+b.toNat*2 ^ (7-N.length % 8)=z at*
    have HB0:=Hd hblk
    clear hblk
    go_wp2_with (at_builtin;refine Zdb rfl _ _ rfl B _ _ _ rfl hown rfl rfl hbound hBs ?_;intro v1 w1 hown1 hb1;clear hc0 hc1 hf0 hf1;obtain⟨q,C,hv1,hBq,hq⟩:=hown1.form (Nat.succ_pos _);rw[hv1];have hblk1:=HB0.out.below hb1 hg;have hc0:=hblk1.cell 0;have hc1:=hblk1.cell 1;have hf0:=hblk1.frozen 0;have hf1:=hblk1.frozen 1;simp at hc0 hc1;rw[hv1]at hown1;have hB1:=Nat.le_trans hBs hb1.size;have HB1:=Hd (Zac.of (g:=g) hb1);clear hb1)
    have hblk2:=hblk1.set_ 0 (.slice (some ⟨q,0,none⟩) ((Ze2 N).length+1) C)
    have hown2:=Zr9 hown1 (p:=⟨g,0,none⟩) hg (.slice (some ⟨q,0,none⟩) ((Ze2 N).length+1) C)
    have hbW:=(Zac.refl B g w1).setCell (p:=⟨g,0,none⟩) (.inl rfl) (.slice (some ⟨q,0,none⟩) ((Ze2 N).length+1) C)
    have hBW:B<=(w1.setCell ⟨g,0,none⟩ (.slice (some ⟨q,0,none⟩) ((Ze2 N).length+1) C)).heap.size:=by simpa [World.setCell]using hB1
    clear hblk1 hown1 hc0 hc1 hf0 hf1
    generalize w1.setCell ⟨g,0,none⟩ (.slice (some ⟨q,0,none⟩) ((Ze2 N).length+1) C)=W at*
    simp at hblk2
    have e0:bs (Ze2 N)++[Value.int .u8 0]=bs (Ze2 N++[0]):=by rw[Za1];rfl
    rw[e0]at hown2
    have hc0:=hblk2.cell 0
    have hc1:=hblk2.cell 1
    have hf1:=hblk2.frozen 1
    simp at hc0 hc1
    have hcy:=Zum hown2 (k:=N.length / 8) (u:=.int .u8 0) (by rw[bs,List.getElem?_map,<-HLEN.out];simp)
    obtain⟨hcy1,hcy2⟩:=hcy
    have hk:N.length / 8 < (Ze2 N).length+1:=by rw[HLEN.out];omega
    have hO:=HO.out
    have HBL:=Hd hblk2
    have HOW:=Hd hown2
    have HBW:=Hd hbW
    clear hblk2 hown2 HO hbW
    go_region
    go_wp2
    go_roundw
    case rel=>
     refine⟨i,pre++[b],by omega,by go_num,HE.out,by simp;omega,?_,?_⟩
     ·have h9:=Zub (b:=b) (ys:=Ze2 N++[0]) (by simp) hg hBW HBL.out HOW.out hBq hk z hz HK.out
      rw[<-List.append_assoc,hN]
      exact h9
     ·exact hbb.trans (HB1.out.trans (HBW.out.trans ((((Zac.refl B g W).setCell (.inr hBq) _).setCell (.inl rfl) _).drew)))
    case measure=>simp[intOf]
   ·obtain⟨y,hy,hy0,hy1,hpk⟩:=Zpx N (x.testBit i) h8
    have hk:N.length / 8 < (Ze2 N).length:=(List.getElem?_eq_some_iff.1 hy).1
    obtain⟨q,C,rfl,hBq,hq⟩:=hown.form (by omega)
    have hcy:=Zum hown (k:=N.length / 8) (u:=.int .u8 (y.toNat:Int)) (by rw[bs,List.getElem?_map,hy];rfl)
    obtain⟨hcy1,hcy2⟩:=hcy
    have hyb:y.toNat < 256:=y.toNat_lt
    have HO:=Hd (Zo8 y.toNat (N.length % 8) (x.testBit i) hyb (by omega) hy0)
    have h8':(((N.length:Int) % 8)==0)=false:=by simp;omega
    have HK:=Hd hpk
    have HBL:=Hd hblk
    have HOW:=Hd hown
    have hA:=HA.out
    clear HA hpk hy hy0 h8 hblk hown
    generalize x.testBit i=b at*
    generalize y.toNat=yn at*
    generalize yn+b.toNat*2 ^ (7-N.length % 8)=z at*
    have hO:=HO.out
    clear HO
    go_wp2
    go_region
    go_wp2
    go_roundw
    case rel=>
     refine⟨i,pre++[b],by omega,by go_num,HE.out,by simp;omega,?_,?_⟩
     ·have h9:=Zub (b:=b) rfl hg hBs HBL.out HOW.out hBq hk z hy1 HK.out
      rw[<-List.append_assoc,hN]
      exact h9
     ·exact hbb.trans ((((Zac.refl B g wr).setCell (.inr hBq) _).setCell (.inl rfl) _).drew)
    case measure=>simp[intOf]
theorem Z1l (m x k:Nat)(h:k < m):(Zbb m x)[k]? =some (x.testBit (m-1-k)):=by
 induction m generalizing k with
 | zero=>omega
 | succ m ih=>
  cases k with
  | zero=>simp[Zbb]
  | succ k=>
   rw[Zbb,List.getElem?_cons_succ,ih k (by omega)]
   congr 2
   omega
theorem Zx2 (b:List UInt8):∀(m:Nat) (y:UInt8),b[m / 8]? =some y->(Zba b)[m]? =some (y.toNat.testBit (7-m % 8)):=by
 induction b with
 | nil=>intro m y h;simp at h
 | cons c b ih=>
  intro m y h
  have e:Zba (c::b)=Zbb 8 c.toNat++Zba b:=rfl
  rw[e]
  by_cases h8:m < 8
  ·have h0:m / 8=0:=Nat.div_eq_of_lt h8
   rw[h0]at h
   simp at h
   subst h
   rw[List.getElem?_append_left (by rw[Zbs];exact h8),Z1l 8 _ m h8]
   congr 2
   omega
  ·rw[List.getElem?_append_right (by rw[Zbs];omega),Zbs]
   have e1:m / 8=(m-8) / 8+1:=by omega
   rw[e1,List.getElem?_cons_succ]at h
   rw[ih (m-8) y h]
   congr 2
   omega
theorem u8_bit (y r:Nat)(hy:y < 256):bits .and .u8 ((y:Int) / 2 ^ r) 1=((y.testBit r).toNat:Int):=by
 have e:(y:Int) / 2 ^ r=((y / 2 ^ r:Nat):Int):=by simp
 have h1:y / 2 ^ r<=y:=Nat.div_le_self ..
 rw[e,Nat.toNat_testBit]
 generalize y / 2 ^ r=z at*
 have h2:(1:Int)=((2 ^ 1-1:Nat):Int):=by decide
 rw[h2]
 show IntKind.u8.wrap ((BitVec.ofInt 8 (z:Int) &&& BitVec.ofInt 8 ((2 ^ 1-1:Nat):Int)).toNat:Int)=_
 rw[BitVec.toNat_and,Zjl z (by omega),Zjl _ (by decide),Nat.and_two_pow_sub_one_eq_mod,IntKind.wrap_u8]
 omega
theorem Zwk (x:Nat)(b:Bool)(hx:x < 1048576):bits .or .i64 ((x:Int)*2) (b.toNat:Int)=((2*x+b.toNat:Nat):Int):=by
 have hb:b.toNat < 2:=by cases b <;> decide
 have h:=Zg1 x b.toNat 1 (by omega) (by simpa using hb) (by omega)
 have e:((x*2 ^ 1:Nat):Int)=(x:Int)*2:=by simp
 rw[e]at h
 rw[h]
 congr 1
 omega
theorem get_any (many g n c:Nat)(A:Option Addr)(l:List UInt8)(w:World)(hm:many<=9)(hl:l.length<=140737488355328)(hn:n+many<=8*l.length)
  (hB:Blk w g 298 #[.slice A l.length c,.int .i64 (n:Int)]) (B:Nat) (hr:Zab w B 1 A l.length (bs l)) (hgB:∀ad,A=some ad->ad.block≠g):
  CA 311 #[.pointer (some ⟨g,0,none⟩),.int .i64 many] w fun e w'=>e=.returned (.int .i64 (val (((Zba l).drop n).take many):Nat))/\Blk w' g 298 #[.slice A l.length c,.int .i64 ((n+many:Nat):Int)]/\Zac w.heap.size g w w':=by
 have hul:=Zfn l
 go_enter func311,ntmps311
 go_wp2
 go_loopw [5,7] (fun x i wr=>∃k:Nat,k<=many/\i=.int .i64 k/\x=.int .i64 (val (((Zba l).drop n).take k):Nat)/\Blk wr g 298 #[.slice A l.length c,.int .i64 ((n+k:Nat):Int)]/\Zac w.heap.size g w wr) (fun _ i _=>many-(intOf i).toNat)
 case atStart=>exact⟨0,Nat.zero_le _,rfl,rfl,hB,Zac.refl _ _ _⟩
 case round=>
  obtain⟨k,hk,rfl,rfl,hb,hbb⟩:=hrel
  clear hB
  by_cases hlt:k < many
  ·have hi:(n+k) / 8 < l.length:=by omega
   obtain⟨b,off,rfl,hbB,hcl⟩:=Zbm hr hi
   have hcl2:wr.cell? ⟨b,off+(n+k) / 8,none⟩=some (.int .u8 (l[(n+k) / 8].toNat:Int)):=by
    rw[hbb.cell (p:=⟨b,off+(n+k) / 8,none⟩) (World.block_lt_of_cell? w _ hcl) (hgB ⟨b,off,none⟩ rfl)]
    exact hcl
   have hat:=Zx2 l (n+k) l[(n+k) / 8] (List.getElem?_eq_getElem hi)
   have hv:val (((Zba l).drop n).take (k+1))=2*val (((Zba l).drop n).take k)+(l[(n+k) / 8].toNat.testBit (7-(n+k) % 8)).toNat:=by
    rw[List.take_add_one,List.getElem?_drop,hat]
    exact Zt0 _ _
   have hyb:l[(n+k) / 8].toNat < 256:=l[(n+k) / 8].toNat_lt
   have hx:val (((Zba l).drop n).take k) < 1048576:=by
    have h1:=Zga (((Zba l).drop n).take k)
    have h2:(((Zba l).drop n).take k).length<=20:=by rw[List.length_take];omega
    have h3:2 ^ (((Zba l).drop n).take k).length<=2 ^ 20:=Nat.pow_le_pow_right (by omega) h2
    omega
   have HA:=Hd (u8_bit l[(n+k) / 8].toNat (7-(n+k) % 8) hyb)
   have HO:=Hd (Zwk (val (((Zba l).drop n).take k)) (l[(n+k) / 8].toNat.testBit (7-(n+k) % 8)) hx)
   have HV:=Hd hv
   have HB:=Hd hb
   have hc0:=hb.cell 0
   have hc1:=hb.cell 1
   have hf1:=hb.frozen 1
   simp only[List.getElem?_toArray,List.getElem?_cons_zero,List.getElem?_cons_succ]at hc0 hc1
   have hbit:(l[(n+k) / 8].toNat.testBit (7-(n+k) % 8)).toNat<=1:=by cases l[(n+k) / 8].toNat.testBit (7-(n+k) % 8) <;> decide
   clear hv hat hcl hb hul
   have hA:=HA.out
   generalize l[(n+k) / 8].toNat.testBit (7-(n+k) % 8)=bt at*
   generalize l[(n+k) / 8].toNat=y at*
   generalize val (((Zba l).drop n).take k)=x at*
   generalize hN:n+k=N at*
   have hO:=HO.out
   have hil:(N:Int) / 8 < (l.length:Int):=by omega
   have hi0:(0:Int)<=(N:Int) / 8:=by omega
   clear HA HO
   go_wp2
   go_quiet (fail)
   go_wp2
   go_roundw
   case rel=>
    refine⟨k+1,by omega,by go_num,by rw[HV.out];go_num,?_,hbb.trans (((Zac.refl _ g wr).drewN _).setCell (.inl rfl) _)⟩
    have h1:=(HB.out.drewN nq).set_ 1 (.int .i64 ((N:Int)+1))
    have e:((n+(k+1):Nat):Int)=(N:Int)+1:=by omega
    rw[e]
    simpa using h1
   case measure=>simp[intOf];omega
  ·have hkm:k=many:=by omega
   subst hkm
   go_wp2
   go_ret
   exact⟨rfl,hb,hbb⟩
theorem Zg8 (W:World)(l:List UInt8):∃c W',(convert 9 23 (.string ⟨l.toArray⟩)).run prog W=.ok (.slice (some ⟨W.heap.size,0,none⟩) l.length c) W'/\
  l.length<=c/\Zab W' W'.heap.size 1 (some ⟨W.heap.size,0,none⟩) l.length (bs l)/\Below W.heap.size W W'/\W'.heap.size=W.heap.size+1:=by
 have h:=Lib.run_convert_string_bytes (P:=prog) W 9 23 5 ⟨l.toArray⟩ underlying9 underlying23 underlying5
 have hs:(ByteArray.mk l.toArray).size=l.length:=rfl
 rw[hs]at h
 refine⟨_,_,h,grownCap_ge _ _ _ _,?_,?_,Lib.bytesWorld_size _ _ _⟩
 ·refine⟨by simp[bs],fun _=>⟨_,rfl,by rw[Lib.bytesWorld_size];exact Nat.lt_succ_self _,fun j u hu=> ?_⟩⟩
  have hj:j < l.length:=by
   have:=(List.getElem?_eq_some_iff.1 hu).1
   simpa [bs]using this
  rw[Addr.add_lit,Nat.zero_add,Lib.bytesWorld_cell _ _ _ _ (by rw[hs];exact hj),<-hu,Zxa l hj]
  simp[hj]
 ·refine⟨?_,?_,?_,by rw[Lib.bytesWorld_size];omega,fun k hk=>Lib.bytesWorld_at_old _ _ _ k hk⟩
  all_goals simp[Lib.bytesWorld,World.freeze,World.alloc,World.drew,-World.alloc_eq,-World.drew_eq]
theorem idx_k (c:UInt8)(z:Int)(h:Zhx c=z)(w:World):
  CA 78 #[.string ⟨Zde.toArray⟩,.int .u8 (c.toNat:Int)] w fun e w'=>e=.returned (.int .i64 z)/\w=w':=by
 rw[<-h]
 exact idx_any c w
theorem Zn7 {w:World}{B B':Nat}{e:TypeId}{size n:Nat}{v:Value}{xs:List Value}(h:w.ownsRow B e size v n xs)(hB:B'<=B):w.ownsRow B' e size v n xs:=by
 obtain⟨h1,h2⟩:=h
 refine⟨h1,?_⟩
 rcases h2 with h2 | ⟨g,cap,cur,hv,hg,r⟩
 ·exact .inl h2
 ·exact .inr ⟨g,cap,cur,hv,by omega,r⟩
theorem Zwl (y:Nat)(h:y < 256):bits .or .i64 256 (y:Int)=((256+y:Nat):Int):=by
 have:=Zg1 1 y 8 (by decide) (by omega) (by decide)
 exact this
theorem Zqp (l:List UInt8)(k:Nat)(h:k < l.length):Zap (l.take (k+1))=Zap (l.take k)++cw l[k]:=by
 rw[List.take_succ_eq_append_getElem h,Zmf]
 simp[Zap]
def Znz (w:World)(g:Nat):Nat:=match w.cell? ⟨g,1,none⟩with | some (.int _ q)=>Zo4 q.toNat | _=>0
theorem Zmr {w:World}{g n:Nat}(h:w.cell? ⟨g,1,none⟩=some (.int .i64 (n:Int))):Znz w g=Zo4 n:=by
 unfold Znz
 rw[h]
 rfl
theorem Zwy (l:List UInt8)(hl:l.length<=68719476736)(w:World):
  CA 146 #[.string ⟨l.toArray⟩] w fun e w'=>∃v,e=.returned v/\w'.ownsRow w.heap.size 5 1 v (enc l).length (bs (enc l))/\Below w.heap.size w w':=by
 obtain⟨c,W,hk,hcap,hr,hbW,hWs⟩:=Zg8 (w.alloc (.cells #[.slice none 0 0,.int .i64 0] 298)) l
 have hb0:Below w.heap.size w W:=((Below.refl _ _).alloc (Nat.le_refl _) _).trans (hbW.mono (by simp))
 have hblk0:Blk W w.heap.size 298 #[.slice none 0 0,.int .i64 0]:=(Blk.new w _ _).below hbW (by simp)
 simp only[World.size_alloc]at hr hWs hk
 have hR0:Zto W W.heap.size w.heap.size []:=⟨_,hblk0,by rw[Zgv];exact World.ownsRow_nil _ _ _ _,Nat.le_refl _⟩
 have HB0:=Hd hb0
 have hg:w.heap.size < W.heap.size:=by omega
 have hg2:w.heap.size+1 < W.heap.size:=by omega
 clear hbW hblk0 hb0 hWs
 go_enter func146,ntmps146
 go_wp2
 clear hk
 go_loopw [10] (fun i wr=>∃k:Nat,k<=l.length/\i=.int .i64 k/\Zto wr W.heap.size w.heap.size (Zap (l.take k))/\Zac W.heap.size w.heap.size W wr) (fun i _=>l.length-(intOf i).toNat)
 case atStart=>exact⟨0,Nat.zero_le _,rfl,hR0,Zac.refl _ _ _⟩
 case round=>
  obtain⟨k,hk,rfl,hRk,hbb⟩:=hrel
  clear hR0
  by_cases hlt:k < l.length
  ·obtain⟨b,off,hAd,hbB,hcl⟩:=Zbm hr hlt
   injection hAd with hAd
   injection hAd with h1 h2 _
   subst h1 h2
   have hcl2:wr.cell? ⟨w.heap.size+1,k,none⟩=some (.int .u8 (l[k].toNat:Int)):=by
    rw[hbb.cell (p:=⟨w.heap.size+1,k,none⟩) hg2 (by show w.heap.size+1≠w.heap.size;omega)]
    rw[Nat.zero_add]at hcl
    exact hcl
   have HT:=Hd (Zqp l k hlt)
   have hlen:(Zap (l.take k)).length<=1099511627776:=by
    have h1:=Zm2 (l.take k)
    have h2:(l.take k).length<=l.length:=List.length_take_le' ..
    omega
   have hcw:cw l[k]=if 0<=Zhx l[k]then Zbb 6 (Zhx l[k]).toNat else Zbb 9 (256+l[k].toNat):=rfl
   have HCW:=Hd hcw
   have hyb:l[k].toNat < 256:=l[k].toNat_lt
   clear hcl hcw
   by_cases h0:0<=Zhx l[k]
   ·obtain⟨z,hz⟩:=Int.eq_ofNat_of_zero_le h0
    have hz31:=(Zfs l[k]).2
    have hz32:z < 512:=by omega
    have hcw2:=HCW.out
    rw[if_pos h0,hz,Int.toNat_natCast]at hcw2
    have HZ:=Hd hz
    have HC2:=Hd hcw2
    clear HCW hcw2 h0 hz hz31
    go_wp2_with fail
    refine(idx_k l[k] z HZ.out wr).mono ?_
    rintro e w' ⟨rfl,rfl⟩
    go_wp2_with fail
    refine(Zr3 z 6 w.heap.size W.heap.size _ wr hz32 (by omega) hlen hg hRk).mono ?_
    rintro e w' ⟨rfl,hR',hb'⟩
    go_wp2_with fail
    go_roundw
    case rel=>exact⟨k+1,by omega,by go_num,by rw[HT.out,HC2.out];exact hR',hbb.trans hb'⟩
    case measure=>simp[intOf];omega
   ·have hm1:Zhx l[k]= -1:=by have:=(Zfs l[k]).1;omega
    have hcw2:=HCW.out
    rw[if_neg h0]at hcw2
    have HZ:=Hd hm1
    have HC2:=Hd hcw2
    have hor:=Zwl l[k].toNat hyb
    clear HCW hcw2 h0 hm1
    have hx9:256+l[k].toNat < 512:=by omega
    go_wp2_with fail
    refine(idx_k l[k] (-1) HZ.out wr).mono ?_
    rintro e w' ⟨rfl,rfl⟩
    go_wp2_with fail
    refine(Zr3 (256+l[k].toNat) 9 w.heap.size W.heap.size _ wr hx9 (by omega) hlen hg hRk).mono ?_
    rintro e w' ⟨rfl,hR',hb'⟩
    go_wp2_with fail
    go_roundw
    case rel=>exact⟨k+1,by omega,by go_num,by rw[HT.out,HC2.out];exact hR',hbb.trans hb'⟩
    case measure=>simp[intOf];omega
  ·have hkl:k=l.length:=by omega
   subst hkl
   rw[List.take_length]at hRk
   have hlen:(Zap l).length<=1099511627000:=by
    have h1:=Zm2 l
    omega
   clear hlt hk hr
   go_wp2
   go_loopw [28] (fun _ w2=>∃j:Nat,j<=Zo4 (Zap l).length/\Zto w2 W.heap.size w.heap.size (Zap l++List.replicate j true)/\Zac W.heap.size w.heap.size W w2) (fun _ w2=>Znz w2 w.heap.size)
   case atStart=>exact⟨0,Nat.zero_le _,by simpa using hRk,hbb⟩
   case round=>
    obtain⟨j,hj,hRj,hbj⟩:=hrel
    clear hRk hbb
    have hRj2:=Hd hRj
    obtain⟨v,hb,hown,hBs⟩:=hRj
    have hN:(Zap l++List.replicate j true).length=(Zap l).length+j:=by simp
    have hfl:Zo4 (Zap l).length<=7:=by unfold Zo4;omega
    have hc0:=hb.cell 0
    have hc1:=hb.cell 1
    simp only[List.getElem?_toArray,List.getElem?_cons_zero,List.getElem?_cons_succ]at hc0 hc1
    by_cases h8:((Zap l).length+j) % 8=0
    ·have hjf:j=Zo4 (Zap l).length:=by unfold Zo4 at*;omega
     have HE:Hid (enc l=Ze2 (Zap l++List.replicate j true)):=by
      show _=_
      rw[hjf]
      rfl
     rw[hN]at hc1
     have h8':((((Zap l).length:Int)+(j:Int)) % 8==0)=true:=by simp;omega
     have HOW:=Hd hown
     clear hown hb h8 hjf hN hRj2
     go_wp2
     go_ret
     exact⟨_,rfl,by rw[HE.out];exact Zn7 HOW.out (by omega),HB0.out.trans (hbj.below (by omega) (Nat.le_refl _))⟩
    ·have hc1':=hc1
     rw[hN]at hc1
     have h8':((((Zap l).length:Int)+(j:Int)) % 8==0)=false:=by simp;omega
     have hjlt:j+1<=Zo4 (Zap l).length:=by
      have:j≠Zo4 (Zap l).length:=by
       rintro rfl
       apply h8
       unfold Zo4
       omega
      omega
     have hF1:Znz wr w.heap.size=Zo4 ((Zap l).length+j):=Zmr (by rw[hc1])
     have HF1:=Hd hF1
     have HN:=Hd hN
     have hlen2:(Zap l++List.replicate j true).length<=1099511627776:=by rw[hN];omega
     clear hown hb hc1' hF1 hN hc0
     go_wp2_with fail
     refine(Zr3 1 1 w.heap.size W.heap.size _ wr (by decide) (by decide) hlen2 hg hRj2.out).mono ?_
     rintro e w' ⟨rfl,hR',hb'⟩
     have e1:Zap l++List.replicate j true++Zbb 1 1=Zap l++List.replicate (j+1) true:=by
      rw[List.append_assoc,show Zbb 1 1=[true]by decide,<-List.replicate_succ']
     rw[e1]at hR'
     clear e1
     go_wp2_with fail
     go_roundw
     case rel=>exact⟨j+1,hjlt,hR',hbj.trans hb'⟩
     case measure=>
      obtain⟨v',hb2,_⟩:=hR'
      have hc2:=hb2.cell 1
      simp only[List.getElem?_toArray,List.getElem?_cons_zero,List.getElem?_cons_succ]at hc2
      rw[HF1.out,Zmr hc2]
      simp only[List.length_append,List.length_replicate]
      unfold Zo4
      omega
end
section
abbrev Fld :=List UInt8×List UInt8
def fsz (f:Fld):Nat:=f.1.length+f.2.length+32
def wt :List Fld->Nat
 | []=>0
 | f::l=>fsz f+wt l
theorem Zrk (f:Fld)(l:List Fld):wt (f::l)=fsz f+wt l:=rfl
theorem Z0c (f:Fld):32<=fsz f:=by unfold fsz;omega
theorem Zkh (a b:List Fld):wt (a++b)=wt a+wt b:=by
 induction a with
 | nil=>simp[wt]
 | cons f l ih=>simp only[List.cons_append,wt,ih];omega
theorem Zje (l:List Fld)(k:Nat)(h:k < l.length):wt (l.take (k+1))=wt (l.take k)+fsz l[k]:=by
 rw[List.take_succ_eq_append_getElem h,Zkh]
 simp[wt]
theorem Zix (l:List Fld)(k:Nat):wt (l.take k)<=wt l:=by
 have h:=Zkh (l.take k) (l.drop k)
 rw[List.take_append_drop]at h
 omega
theorem Zmj (l:List Fld):32*l.length<=wt l:=by
 induction l with
 | nil=>simp[wt]
 | cons f l ih=>
  have:=Z0c f
  simp only[wt,List.length_cons]
  omega
def Zrw (most:Nat)(xs:List Fld):Nat->Nat
 | 0=>0
 | n+1=>if wt (xs.take (n+1))<=most then n+1 else Zrw most xs n
def shr (most:Nat)(xs:List Fld):List Fld:=xs.take (Zrw most xs xs.length)
theorem Zyi {most:Nat}{xs:List Fld}{n:Nat}(h:wt (xs.take n)<=most):Zrw most xs n=n:=by
 cases n with
 | zero=>rfl
 | succ n=>simp[Zrw,h]
theorem shrN_go {most:Nat}{xs:List Fld}{n:Nat}(h:¬wt (xs.take (n+1))<=most):Zrw most xs (n+1)=Zrw most xs n:=by simp[Zrw,h]
theorem shrN_wt (most:Nat)(xs:List Fld)(n:Nat):wt (xs.take (Zrw most xs n))<=most:=by
 induction n with
 | zero=>simp[Zrw,wt]
 | succ n ih=>
  unfold Zrw
  split
  ·assumption
  ·exact ih
theorem wt_shr (most:Nat)(xs:List Fld):wt (shr most xs)<=most:=shrN_wt most xs xs.length
theorem shr_zero (xs:List Fld):shr 0 xs=[]:=by
 have h:=wt_shr 0 xs
 have h2:=Zmj (shr 0 xs)
 exact List.eq_nil_of_length_eq_zero (by omega)
def Zrs (max:Nat)(xs:List Fld)(f:Fld):List Fld:=if max < fsz f then []else f::shr (max-fsz f) xs
theorem tAdd_no {max:Nat}{xs:List Fld}{f:Fld}(h:max < fsz f):Zrs max xs f=[]:=by rw[Zrs,if_pos h]
theorem tAdd_yes {max:Nat}{xs:List Fld}{f:Fld}(h:¬max < fsz f):Zrs max xs f=f::shr (max-fsz f) xs:=by rw[Zrs,if_neg h]
theorem Zrj (max:Nat)(xs:List Fld)(f:Fld):wt (Zrs max xs f)<=max:=by
 unfold Zrs
 split
 ·simp[wt]
 ·have:=wt_shr (max-fsz f) xs
  simp only[wt]
  omega
def alw :List Fld:=[([58,109,101,116,104,111,100],[71,69,84]),([58,109,101,116,104,111,100],[80,79,83,84]),([58,112,97,116,104],[47]),([58,104,111,115,116],[]),([58,99,111,100,101],[50,48,48]),([58,99,111,100,101],[52,48,52]),([108,101,110,103,116,104],[]),([116,121,112,101],[116,101,120,116]),([99,111,111,107,105,101],[]),([97,99,99,101,112,116],[42]),([100,97,116,101],[]),([115,101,114,118,101,114],[])]
theorem Zly :alw.length=12:=rfl
def Zb9 (xs:List Fld):List Fld:=alw++xs
theorem Zcx (xs:List Fld):(Zb9 xs).length=12+xs.length:=by simp[Zb9,Zly]
def fnd (p:Fld->Bool):List Fld->Nat
 | []=>0
 | f::l=>if p f then 1 else if fnd p l=0 then 0 else fnd p l+1
theorem Zhl (p:Fld->Bool)(l:List Fld):fnd p l<=l.length:=by
 induction l with
 | nil=>simp[fnd]
 | cons f l ih=>
  simp only[fnd,List.length_cons]
  split
  ·omega
  ·split <;> omega
theorem fnd_snoc (p:Fld->Bool)(l:List Fld)(x:Fld):fnd p (l++[x])=if fnd p l≠0 then fnd p l else if p x then l.length+1 else 0:=by
 induction l with
 | nil=>simp[fnd]
 | cons f l ih=>
  simp only[List.cons_append,fnd,ih,List.length_cons]
  by_cases h:p f=true
  ·simp[h]
  ·by_cases h2:fnd p l=0
   ·by_cases h3:p x=true
    ·simp[h,h2,h3]
    ·simp[h,h2,h3]
   ·simp[h,h2]
theorem Zik (p:Fld->Bool)(l:List Fld)(k:Nat)(h:k < l.length):fnd p (l.take (k+1))=if fnd p (l.take k)≠0 then fnd p (l.take k)else if p l[k]then k+1 else 0:=by
 rw[List.take_succ_eq_append_getElem h,fnd_snoc,List.length_take,Nat.min_eq_left (by omega)]
theorem fnd_some {p:Fld->Bool}{l:List Fld}(h:fnd p l≠0):∃hk:fnd p l-1 < l.length,p l[fnd p l-1]=true:=by
 induction l with
 | nil=>simp[fnd]at h
 | cons f l ih=>
  simp only[fnd]at h⊢
  by_cases h1:p f=true
  ·simp[h1]
  ·by_cases h2:fnd p l=0
   ·simp[h1,h2]at h
   ·obtain⟨hk,hp⟩:=ih h2
    simp only[h1,h2,if_false,List.length_cons,Bool.false_eq_true]
    refine⟨by omega,?_⟩
    have e:fnd p l+1-1=(fnd p l-1)+1:=by omega
    simp only[e,List.getElem_cons_succ]
    exact hp
def isF (f:Fld):Fld->Bool:=fun x=>decide (x=f)
def isN (f:Fld):Fld->Bool:=fun x=>decide (x.1=f.1)
end
section
open Go.RowKit
def Zjq (k:Nat):Value:=if k=0 then .nilIface else .iface 95 (.int .i64 (k:Int))
theorem Zal :Zjq 0=.nilIface:=rfl
theorem Zbe {k:Nat}(h:k≠0):Zjq k=.iface 95 (.int .i64 (k:Int)):=by simp[Zjq,h]
theorem Zb2 {w:World}{B:Nat}{A:Option Addr}{l:List UInt8}(hr:Zab w B 1 A l.length (bs l))(c:Nat):
  (convert 23 9 (.slice A l.length c)).run prog w=.ok (.string ⟨l.toArray⟩) w:=by
 rcases A with _ | a
 ·have h0:l.length=0:=by
   rcases Nat.eq_zero_or_pos l.length with h | h
   ·exact h
   ·obtain⟨ad,e,_⟩:=hr.2 h
    cases e
  have hl:l=[]:=List.eq_nil_of_length_eq_zero h0
  subst hl
  rw[run_convert_bytes_string w 23 9 5 none _ c underlying23 underlying5 underlying9]
  rfl
 ·refine run_convert_bytes_back w 23 9 5 a c l underlying23 underlying5 underlying9 (fun j hj=> ?_)
  obtain⟨ad,e,_,hc⟩:=hr.2 (by omega)
  injection e with e
  subst e
  exact hc j _ (Zxa l hj)
def Gave (w w':World)(l:List UInt8)(A:Option Addr)(c:Nat):Prop:=l.length<=c/\Zab w' w'.heap.size 1 A l.length (bs l)/\Below w.heap.size w w'
theorem Zdg {w w':World}{v:Value}{l:List UInt8}(h:w'.ownsRow w.heap.size 5 1 v l.length (bs l))(hb:Below w.heap.size w w'):
  ∃A c,v=.slice A l.length c/\Gave w w' l A c:=by
 obtain⟨A,c,rfl,hc,hr⟩:=Zhk h
 exact⟨A,c,rfl,hc,hr,hb⟩
theorem gave_nil (w:World):Gave w w [] none 0:=⟨Nat.le_refl _,Zab.none_,Below.refl _ _⟩
def fv (f:Fld):List Value:=[.string ⟨f.1.toArray⟩,.string ⟨f.2.toArray⟩]
def fvs (l:List Fld):List Value:=l.flatMap fv
theorem Zc5 (f:Fld)(l:List Fld):fvs (f::l)=fv f++fvs l:=rfl
theorem Zg4 (a b:List Fld):fvs (a++b)=fvs a++fvs b:=by simp[fvs]
theorem Zfi (l:List Fld):(fvs l).length=l.length*2:=by
 induction l with
 | nil=>rfl
 | cons f l ih=>
  rw[Zc5,List.length_append,ih]
  simp[fv]
  omega
theorem fvs_take (l:List Fld)(k:Nat):(fvs l).take (k*2)=fvs (l.take k):=by
 induction l generalizing k with
 | nil=>simp[fvs]
 | cons f l ih=>
  cases k with
  | zero=>simp[fvs]
  | succ k=>
   rw[Zc5,List.take_succ_cons,Zc5,<-ih k]
   simp[fv,Nat.add_mul]
theorem Zog (l:List Fld):∀u∈fvs l,u.oneCell'=true:=by
 intro u hu
 obtain⟨f,_,hf⟩:=List.mem_flatMap.1 hu
 simp only[fv,List.mem_cons,List.not_mem_nil,or_false]at hf
 rcases hf with rfl | rfl <;> rfl
theorem Zqd (l:List Fld):∀{k:Nat} (_:k < l.length),(fvs l)[k*2]? =some (.string ⟨l[k].1.toArray⟩)/\(fvs l)[k*2+1]? =some (.string ⟨l[k].2.toArray⟩):=by
 induction l with
 | nil=>intro k h;simp at h
 | cons f l ih=>
  intro k h
  cases k with
  | zero=>exact⟨rfl,rfl⟩
  | succ k=>
   have:=ih (k:=k) (by simpa using h)
   have e1:(fvs (f::l))[(k+1)*2]? =(fvs l)[k*2]? :=by
    rw[Zc5,show(k+1)*2=k*2+1+1 by omega]
    simp[fv]
   have e2:(fvs (f::l))[(k+1)*2+1]? =(fvs l)[k*2+1]? :=by
    rw[Zc5,show(k+1)*2+1=k*2+1+1+1 by omega]
    simp[fv]
   rw[e1,e2]
   simpa using this
theorem Zb4 {w:World}{B:Nat}{A:Option Addr}{l:List Fld}(h:Zab w B 2 A l.length (fvs l))(h0:0 < l.length):
  ∃b off,A=some ⟨b,off,none⟩/\b < B/\∀k (hk:k < l.length),w.cell? ⟨b,off+k*2,none⟩=some (.string ⟨l[k].1.toArray⟩)/\w.cell? ⟨b,off+k*2+1,none⟩=some (.string ⟨l[k].2.toArray⟩):=by
 obtain⟨ad,e,hb,hc⟩:=h.2 h0
 obtain⟨b,off,spot⟩:=ad
 have h1:=hc _ _ (Zqd l h0).1
 have hspot:spot=none:=by simpa [Addr.add]using World.cell?_spot h1
 subst hspot
 refine⟨b,off,e,hb,fun k hk=> ?_⟩
 have h2:=hc _ _ (Zqd l hk).1
 have h3:=hc _ _ (Zqd l hk).2
 rw[Addr.add_lit]at h2 h3
 rw[<-Nat.add_assoc]at h3
 exact⟨h2,h3⟩
def fOk (f:Fld):Prop:=f.1.length<=140737488355328/\f.2.length<=140737488355328
theorem Zgs (f:Fld)(hf:fOk f)(w:World):
  CA 91 #[.agg #[.string ⟨f.1.toArray⟩,.string ⟨f.2.toArray⟩]] w fun e w'=>e=.returned (.int .i64 (fsz f:Nat))/\Below w.heap.size w w':=by
 obtain⟨h1,h2⟩:=hf
 go_enter func91,ntmps91
 go_wp2
 go_ret
 refine⟨?_,(Below.refl _ _).alloc (Nat.le_refl _) _⟩
 simp[fsz]
theorem Zdm :(prog.info? 41).map (fun i=>(i.zero,i.size,i.bytes))=some (some (.agg #[.string ⟨#[]⟩,.string ⟨#[]⟩]),2,32):=by kernel_rfl
theorem Zhc (w:World):
  CA 89 #[] w fun e w'=>e=.returned (.slice (some ⟨w.heap.size,0,none⟩) 12 12)/\w.alloc (.cells (fvs alw).toArray 41)=w':=by
 go_enter func89,ntmps89
 go_wp2
 go_ret
 exact⟨rfl,rfl⟩
theorem Zej {w:World}{B b off at_ n c:Nat}{l:List UInt8}(h:Zab w B 1 (some ⟨b,off,none⟩) l.length (bs l))(hn:at_+n<=l.length)(hc:l.length<=c):
  Zab w B 1 (if c=at_ then some ⟨b,off,none⟩else some ⟨b,off+at_,none⟩) n (bs ((l.drop at_).take n)):=by
 refine⟨by simp[bs];omega,fun h0=> ?_⟩
 obtain⟨b',off',he,hb,hcl⟩:=h.form (by omega)
 cases he
 rw[if_neg (by omega)]
 refine⟨_,rfl,hb,fun j u hj=> ?_⟩
 have hj2:j < n:=by
  have hl:=(List.getElem?_eq_some_iff.1 hj).1
  simp[bs]at hl
  omega
 have e:(bs l)[at_+j]? =some u:=by
  rw[<-hj]
  simp[bs,List.getElem?_take,hj2]
 have:=hcl (at_+j) u e
 rw[Addr.add_lit]
 rwa [<-Nat.add_assoc]at this
theorem Zhb {B:Nat}{a w:World}(h:Below B a w)(n:Nat):Below B a (w.drewN n):=⟨h.os,h.tape,h.output,h.size,h.block⟩
theorem Zgt {w:World}{B:Nat}{A:Option Addr}{l:List UInt8}(h:Zab w B 1 A l.length (bs l))(h0:0 < l.length):
  ∃b off y,A=some ⟨b,off,none⟩/\b < B/\w.cell? ⟨b,off,none⟩=some (.int .u8 ((y:Nat):Int))/\(l.headD 0).toNat=y/\y < 256:=by
 obtain⟨b,off,rfl,hb,hc⟩:=Zbm h (k:=0) h0
 refine⟨b,off,(l.headD 0).toNat,rfl,hb,?_,rfl,(l.headD 0).toNat_lt⟩
 cases l with
 | nil=>simp at h0
 | cons c r=>exact hc
end
section
structure Frm where
 K:Int
 F:Int
 S:Int
 body:List UInt8
def Zmd (f:Frm):Prop:=0<=f.K/\f.K<=255/\0<=f.F/\f.F<=255/\0<=f.S/\f.S<=2147483647
instance (f:Frm):Decidable (Zmd f):=by unfold Zmd;infer_instance
def Zeq (f:Frm):Nat:=if Zmd f then(if 1024 < f.body.length then 4 else 0)else 1
def Zqh (f:Frm):List UInt8:=Zar 3 f.body.length++([UInt8.ofNat f.K.toNat,UInt8.ofNat f.F.toNat]++Zar 4 f.S.toNat)
def Zbh (f:Frm):List UInt8:=if Zeq f=0 then Zqh f++f.body else []
def Zhh :Frm:=⟨0,0,0,[]⟩
def Zdy (b:List UInt8):Frm×Nat×Nat:=
 if b.length < 9 then(Zhh,0,8)
 else if 1024 < Zaz (b.take 3)then(Zhh,0,4)
 else if 2147483647 < Zaz ((b.drop 5).take 4)then(Zhh,0,10)
 else if b.length-9 < Zaz (b.take 3)then(Zhh,0,8)
 else(⟨((b.getD 3 0).toNat:Nat),((b.getD 4 0).toNat:Nat),(Zaz ((b.drop 5).take 4):Nat),(b.drop 9).take (Zaz (b.take 3))⟩,9+Zaz (b.take 3),0)
theorem Zg6 {b:List UInt8}(h:b.length < 9):Zdy b=(Zhh,0,8):=by rw[Zdy,if_pos h]
theorem Zqg {b:List UInt8}(h:¬b.length < 9)(h2:1024 < Zaz (b.take 3)):Zdy b=(Zhh,0,4):=by rw[Zdy,if_neg h,if_pos h2]
theorem Zqe {b:List UInt8}(h:¬b.length < 9)(h2:¬1024 < Zaz (b.take 3))(h3:2147483647 < Zaz ((b.drop 5).take 4)):Zdy b=(Zhh,0,10):=by rw[Zdy,if_neg h,if_neg h2,if_pos h3]
theorem Zlb {b:List UInt8}(h:¬b.length < 9)(h2:¬1024 < Zaz (b.take 3))(h3:¬2147483647 < Zaz ((b.drop 5).take 4))(h4:b.length-9 < Zaz (b.take 3)):Zdy b=(Zhh,0,8):=by
 rw[Zdy,if_neg h,if_neg h2,if_neg h3,if_pos h4]
theorem Zuy {b:List UInt8}(h:¬b.length < 9)(h2:¬1024 < Zaz (b.take 3))(h3:¬2147483647 < Zaz ((b.drop 5).take 4))(h4:¬b.length-9 < Zaz (b.take 3)):
  Zdy b=(⟨((b.getD 3 0).toNat:Nat),((b.getD 4 0).toNat:Nat),(Zaz ((b.drop 5).take 4):Nat),(b.drop 9).take (Zaz (b.take 3))⟩,9+Zaz (b.take 3),0):=by
 rw[Zdy,if_neg h,if_neg h2,if_neg h3,if_neg h4]
theorem Zfu (f:Frm):(Zqh f).length=9:=by simp[Zqh,Zbj]
theorem Zgm {f:Frm}(h:Zeq f=0):Zmd f/\f.body.length<=1024:=by
 unfold Zeq at h
 split at h
 ·split at h
  ·omega
  ·exact⟨by assumption,by omega⟩
 ·omega
theorem Zoi {f:Frm}(h:Zeq f=0):Zbh f=Zqh f++f.body:=by rw[Zbh,if_pos h]
theorem Zbu {f:Frm}(h:Zeq f=0):(Zbh f).length=9+f.body.length:=by rw[Zoi h,List.length_append,Zfu]
theorem Zws (f:Frm)(r:List UInt8):(Zqh f++r).take 3=Zar 3 f.body.length:=by
 unfold Zqh
 rw[List.append_assoc,List.take_append_of_le_length (by rw[Zbj];omega),List.take_of_length_le (by rw[Zbj];omega)]
theorem Zwu (f:Frm)(r:List UInt8):(Zqh f++r).drop 5=Zar 4 f.S.toNat++r:=by
 unfold Zqh
 have e:Zar 3 f.body.length=[UInt8.ofNat (f.body.length / 256 ^ 2),UInt8.ofNat (f.body.length / 256 ^ 1),UInt8.ofNat (f.body.length / 256 ^ 0)]:=rfl
 rw[e]
 simp
theorem Z0g (f:Frm)(r:List UInt8):(Zqh f++r).getD 3 0=UInt8.ofNat f.K.toNat/\(Zqh f++r).getD 4 0=UInt8.ofNat f.F.toNat:=by
 unfold Zqh
 have e:Zar 3 f.body.length=[UInt8.ofNat (f.body.length / 256 ^ 2),UInt8.ofNat (f.body.length / 256 ^ 1),UInt8.ofNat (f.body.length / 256 ^ 0)]:=rfl
 rw[e]
 simp
theorem Zwt (f:Frm)(r:List UInt8):(Zqh f++r).drop 9=r:=by
 rw[<-Zfu f,List.drop_left]
theorem Zx3 {x:Int}(h0:0<=x)(h:x<=255):(((UInt8.ofNat x.toNat).toNat:Nat):Int)=x:=by
 simp only[UInt8.toNat_ofNat']
 omega
theorem beNat3 (n:Nat)(h:n<=1024):Zaz (Zar 3 n)=n:=Zlu 3 n (by omega)
theorem beNat4 (n:Nat)(h:n<=2147483647):Zaz (Zar 4 n)=n:=Zlu 4 n (by omega)
theorem Zqf {f:Frm}(h:Zeq f=0)(r:List UInt8):Zdy (Zqh f++r)=if r.length < f.body.length then(Zhh,0,8)else(⟨f.K,f.F,f.S,r.take f.body.length⟩,9+f.body.length,0):=by
 obtain⟨⟨h1,h2,h3,h4,h5,h6⟩,hb⟩:=Zgm h
 have e1:Zaz ((Zqh f++r).take 3)=f.body.length:=by rw[Zws,beNat3 _ hb]
 have e2:Zaz (((Zqh f++r).drop 5).take 4)=f.S.toNat:=by
  rw[Zwu,List.take_append_of_le_length (by rw[Zbj];omega),List.take_of_length_le (by rw[Zbj];omega),beNat4 _ (by omega)]
 have e3:(Zqh f++r).length=9+r.length:=by rw[List.length_append,Zfu]
 by_cases hs:r.length < f.body.length
 ·rw[if_pos hs,Zlb (by omega) (by omega) (by omega) (by omega)]
 ·rw[if_neg hs,Zuy (by omega) (by omega) (by omega) (by omega),e1,e2,(Z0g f r).1,(Z0g f r).2,Zwt,Zx3 h1 h2,Zx3 h3 h4]
  have:((f.S.toNat:Nat):Int)=f.S:=by omega
  rw[this]
theorem Z0e {f:Frm}(h:Zeq f=0)(b:List UInt8):Zdy (Zbh f++b)=(f,(Zbh f).length,0):=by
 rw[Zbu h,Zoi h,List.append_assoc,Zqf h,if_neg (by simp)]
 rw[List.take_append_of_le_length (Nat.le_refl _),List.take_of_length_le (Nat.le_refl _)]
theorem frm_cut {f:Frm}(h:Zeq f=0)(i:Nat)(hi:i < (Zbh f).length):Zdy ((Zbh f).take i)=(Zhh,0,8):=by
 rw[Zbu h]at hi
 by_cases h9:i < 9
 ·exact Zg6 (by rw[List.length_take];omega)
 ·obtain⟨k,rfl⟩:∃k,i=9+k:=⟨i-9,by omega⟩
  rw[Zoi h,<-Zfu f,List.take_length_add_append,Zqf h,if_pos (by rw[List.length_take];omega)]
end
section
open Go.RowKit
theorem Zdc (s:Int)(h1:1<=s)(h4:s<=4)(w:World):
  CA 210 #[.int .i64 s] w fun e w'=>e=.returned (.int .i64 (most s.toNat:Nat))/\w=w':=by
 rcases(by omega:s=1∨s=2∨s=3∨s=4)with rfl | rfl | rfl | rfl
 all_goals
  go_enter func210,ntmps210
  go_wp2
  go_ret
  exact⟨by simp[most] <;> first | rfl | decide | omega,rfl⟩
theorem wbig_ok1 (n:Int)(h0:0<=n)(h:n<=(most 1:Nat))(w:World):
  CA 156 #[.int .i64 n,.int .i64 1] w fun e w'=>∃v,e=.returned (.tuple #[v,.nilIface])/\w'.ownsRow w.heap.size 5 1 v 1 (bs (Zar 1 n.toNat))/\Below w.heap.size w w':=by
 have hm:∀W:World,(Instr.makeSlice 23 (.int .i64 1) (.int .i64 1)).run prog W=.ok (.slice (some ⟨W.heap.size,0,none⟩) 1 1) (W.alloc (.cells #[.int .u8 0] 5)):=fun _=>by kernel_rfl
 have hn:¬n < 0:=by omega
 have hn2:¬((most 1:Nat):Int) < n:=by omega
 go_enter func156,ntmps156
 go_wp2_with (go_at_call 210;refine(Zdc _ (by omega) (by omega) _).mono ?_;rintro e w' ⟨rfl,rfl⟩)
 refine wp_loop_rounds 2 ?_
 iterate 2
  rw[rounds_succ]
  go_wp2
 go_ret2
 refine⟨_,rfl,Zhv w _ _ _ 1 ?_ (by simp[bs,Zar]) (by decide),(Below.refl _ _).alloc (Nat.le_refl _) _⟩
 obtain⟨m,rfl⟩:=Int.eq_ofNat_of_zero_le h0
 simp[bs,Zar]
theorem wbig_ok2 (n:Int)(h0:0<=n)(h:n<=(most 2:Nat))(w:World):
  CA 156 #[.int .i64 n,.int .i64 2] w fun e w'=>∃v,e=.returned (.tuple #[v,.nilIface])/\w'.ownsRow w.heap.size 5 1 v 2 (bs (Zar 2 n.toNat))/\Below w.heap.size w w':=by
 have hm:∀W:World,(Instr.makeSlice 23 (.int .i64 2) (.int .i64 2)).run prog W=.ok (.slice (some ⟨W.heap.size,0,none⟩) 2 2) (W.alloc (.cells #[.int .u8 0,.int .u8 0] 5)):=fun _=>by kernel_rfl
 have hn:¬n < 0:=by omega
 have hn2:¬((most 2:Nat):Int) < n:=by omega
 go_enter func156,ntmps156
 go_wp2_with (go_at_call 210;refine(Zdc _ (by omega) (by omega) _).mono ?_;rintro e w' ⟨rfl,rfl⟩)
 refine wp_loop_rounds 3 ?_
 iterate 3
  rw[rounds_succ]
  go_wp2
 go_ret2
 refine⟨_,rfl,Zhv w _ _ _ 2 ?_ (by simp[bs,Zar]) (by decide),(Below.refl _ _).alloc (Nat.le_refl _) _⟩
 obtain⟨m,rfl⟩:=Int.eq_ofNat_of_zero_le h0
 simp[bs,Zar]
theorem wbig_ok3 (n:Int)(h0:0<=n)(h:n<=(most 3:Nat))(w:World):
  CA 156 #[.int .i64 n,.int .i64 3] w fun e w'=>∃v,e=.returned (.tuple #[v,.nilIface])/\w'.ownsRow w.heap.size 5 1 v 3 (bs (Zar 3 n.toNat))/\Below w.heap.size w w':=by
 have hm:∀W:World,(Instr.makeSlice 23 (.int .i64 3) (.int .i64 3)).run prog W=.ok (.slice (some ⟨W.heap.size,0,none⟩) 3 3) (W.alloc (.cells #[.int .u8 0,.int .u8 0,.int .u8 0] 5)):=fun _=>by kernel_rfl
 have hn:¬n < 0:=by omega
 have hn2:¬((most 3:Nat):Int) < n:=by omega
 go_enter func156,ntmps156
 go_wp2_with (go_at_call 210;refine(Zdc _ (by omega) (by omega) _).mono ?_;rintro e w' ⟨rfl,rfl⟩)
 refine wp_loop_rounds 4 ?_
 iterate 4
  rw[rounds_succ]
  go_wp2
 go_ret2
 refine⟨_,rfl,Zhv w _ _ _ 3 ?_ (by simp[bs,Zar]) (by decide),(Below.refl _ _).alloc (Nat.le_refl _) _⟩
 obtain⟨m,rfl⟩:=Int.eq_ofNat_of_zero_le h0
 simp[bs,Zar]
theorem wbig_ok4 (n:Int)(h0:0<=n)(h:n<=(most 4:Nat))(w:World):
  CA 156 #[.int .i64 n,.int .i64 4] w fun e w'=>∃v,e=.returned (.tuple #[v,.nilIface])/\w'.ownsRow w.heap.size 5 1 v 4 (bs (Zar 4 n.toNat))/\Below w.heap.size w w':=by
 have hm:∀W:World,(Instr.makeSlice 23 (.int .i64 4) (.int .i64 4)).run prog W=.ok (.slice (some ⟨W.heap.size,0,none⟩) 4 4) (W.alloc (.cells #[.int .u8 0,.int .u8 0,.int .u8 0,.int .u8 0] 5)):=fun _=>by kernel_rfl
 have hn:¬n < 0:=by omega
 have hn2:¬((most 4:Nat):Int) < n:=by omega
 go_enter func156,ntmps156
 go_wp2_with (go_at_call 210;refine(Zdc _ (by omega) (by omega) _).mono ?_;rintro e w' ⟨rfl,rfl⟩)
 refine wp_loop_rounds 5 ?_
 iterate 5
  rw[rounds_succ]
  go_wp2
 go_ret2
 refine⟨_,rfl,Zhv w _ _ _ 4 ?_ (by simp[bs,Zar]) (by decide),(Below.refl _ _).alloc (Nat.le_refl _) _⟩
 obtain⟨m,rfl⟩:=Int.eq_ofNat_of_zero_le h0
 simp[bs,Zar]
theorem Zxo (n s:Int)(h1:1<=s)(h4:s<=4)(h0:0<=n)(h:n<=(most s.toNat:Nat))(w:World):
  CA 156 #[.int .i64 n,.int .i64 s] w fun e w'=>∃v,e=.returned (.tuple #[v,.nilIface])/\w'.ownsRow w.heap.size 5 1 v s.toNat (bs (Zar s.toNat n.toNat))/\Below w.heap.size w w':=by
 rcases(by omega:s=1∨s=2∨s=3∨s=4)with rfl | rfl | rfl | rfl
 ·exact wbig_ok1 n h0 h w
 ·exact wbig_ok2 n h0 h w
 ·exact wbig_ok3 n h0 h w
 ·exact wbig_ok4 n h0 h w
theorem wbig_bad (n s:Int)(hb:¬(1<=s/\s<=4/\0<=n/\n<=(most s.toNat:Nat)))(w:World):
  CA 156 #[.int .i64 n,.int .i64 s] w fun e w'=>e=.returned (.tuple #[.slice none 0 0,.iface 95 (.int .i64 1)])/\w=w':=by
 by_cases h1:s < 1
 ·clear hb
  go_enter func156,ntmps156
  go_wp2
  go_ret2
  exact⟨rfl,rfl⟩
 by_cases h4:4 < s
 ·clear hb
  go_enter func156,ntmps156
  go_wp2
  go_ret2
  exact⟨rfl,rfl⟩
 by_cases h0:n < 0
 ·clear hb
  go_enter func156,ntmps156
  go_wp2
  go_ret2
  exact⟨rfl,rfl⟩
 have h:((most s.toNat:Nat):Int) < n:=by omega
 clear hb
 go_enter func156,ntmps156
 go_wp2_with (go_at_call 210;refine(Zdc _ (by omega) (by omega) _).mono ?_;rintro e w' ⟨rfl,rfl⟩)
 go_ret2
 exact⟨rfl,rfl⟩
def Zdz (l:List UInt8)(s:Int):Nat:=if s < 1∨4 < s then 1 else if(l.length:Int) < s then 8 else if 2147483647 < Zaz (l.take s.toNat)then 10 else 0
def Zfr (l:List UInt8)(s:Int):Nat:=if Zdz l s=0 then Zaz (l.take s.toNat)else 0
end
end Go.Proofs.YtbgnggkgmeagkaaGreatDoor
