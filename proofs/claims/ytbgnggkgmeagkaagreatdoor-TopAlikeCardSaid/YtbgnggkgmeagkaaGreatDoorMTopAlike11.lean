/-
  A part of the proof of TopAlike: each theorem states its own conditions.
-/
import Derived.Test.YtbgnggkgmeagkaaGreatDoorMTopAlike10
import Derived.OrdersIn
set_option linter.unusedSimpArgs false
set_option linter.unusedVariables false
set_option maxRecDepth 100000
set_option maxHeartbeats 16000000
namespace Go.Proofs.YtbgnggkgmeagkaaGreatDoor
open Go.Proofs.Tryz
section
open Go.RowKit
def pcB (block:List UInt8)(j:Nat):List UInt8:=(block.drop (1024*j)).take 1024
theorem Zek (block:List UInt8)(j:Nat):(pcB block j).length=min 1024 (block.length-1024*j):=by simp[pcB]
def Zmw (A:Option Addr)(len j:Nat):Value:=.slice (A.map (·.add (1024*j))) (min 1024 (len-1024*j)) (min 1024 (len-1024*j))
theorem pc_reads {w:World}{B:Nat}{A:Option Addr}{block:List UInt8}(h:Zab w B 1 A block.length (bs block))(j:Nat)(hj:j < Zaq block.length):Zab w B 1 (A.map (·.add (1024*j))) (pcB block j).length (bs (pcB block j)):=by
 have hlt:1024*j < block.length:=by unfold Zaq at hj;omega
 have h1:=h.cut (k:=1024*j) (cap:=block.length+1) (by omega) (by omega)
 rw[if_neg (by omega),Nat.mul_one,Zfy]at h1
 have h2:=h1.take (k:=(pcB block j).length) (by rw[Zek];omega)
 have e:(bs (block.drop (1024*j))).take (pcB block j).length=bs (pcB block j):=by
  rw[Zov]
  congr 1
  rw[Zek]
  unfold pcB
  rcases Nat.le_total 1024 (block.length-1024*j)with h | h
  ·rw[Nat.min_eq_left h]
  ·rw[Nat.min_eq_right h,List.take_of_length_le (by simp),List.take_of_length_le (by simp;omega)]
 rw[e]at h2
 exact h2
def frs (st:Int)(Vs:List Value):List Value:=Vs.flatMap fun V=> [.int .i64 2,.int .i64 0,.int .i64 st,V]
theorem Zux (st:Int)(V:Value)(Vs:List Value):frs st (V::Vs)=.int .i64 2::.int .i64 0::.int .i64 st::V::frs st Vs:=rfl
theorem frs_snoc (st:Int)(V:Value)(Vs:List Value):frs st (Vs++[V])=frs st Vs++[.int .i64 2,.int .i64 0,.int .i64 st,V]:=by simp[frs]
theorem frs_at (st:Int):∀(Vs:List Value) (i:Nat) (V:Value),Vs[i]? =some V->(frs st Vs)[4*i]? =some (.int .i64 2)/\(frs st Vs)[4*i+1]? =some (.int .i64 0)/\(frs st Vs)[4*i+2]? =some (.int .i64 st)/\(frs st Vs)[4*i+3]? =some V
 | [],i,V,h=>by simp at h
 | U::Vs,0,V,h=>by
  simp at h
  subst h
  simp[Zux]
 | U::Vs,i+1,V,h=>by
  have h2:=frs_at st Vs i V (by simpa using h)
  have e:4*(i+1)=4*i+4:=by omega
  rw[e,Zux]
  simpa using h2
theorem Zmc {W w1:World}(hb:Below W.heap.size W w1):W.grownBy w1 none:=⟨hb.os,hb.tape,hb.output,hb.size,fun k hk _=>hb.block k hk⟩
theorem Zhw {X Y:World}{row:Option Nat}{base size k:Nat}{e:TypeId}{v:Value}{xs:List Value}(hr:X.ownsRow base e size v k xs)(hg:X.grownBy Y row)(hrow:∀r,row=some r->∃o:Obj,X.heap[r]? =some o/\o.isCells=false):Y.ownsRow base e size v k xs:=by
 refine hr.kept hg ?_
 rcases hr.2 with⟨rfl,_⟩ | ⟨g,cap,cur,rfl,_,hgb,_⟩
 ·exact .inl rfl
 ·refine .inr fun e'=> ?_
  obtain⟨o,ho,hc⟩:=hrow g (by simpa [Value.ownBlock]using e'.symm)
  rw[hgb]at ho;cases ho;cases hc
theorem Zfz {X Y:World}{row:Option Nat}{B:Nat}{t:TypeId}{v:Value}(h:Boxed X B t v)(hg:X.grownBy Y row)(hrow:∀r,row=some r->∃o:Obj,X.heap[r]? =some o/\o.isCells=false):Boxed Y B t v:=by
 refine h.kept hg fun e'=> ?_
 obtain⟨o,ho,hc⟩:=hrow B e'.symm
 rw[show X.heap[B]? =_ from h]at ho;cases ho;cases hc
theorem Zv4 {W:World}{b1 b2 s1 s2 n1 n2:Nat}{e1 e2:TypeId}{v1 v2:Value}{x1 x2:List Value}(h1:W.ownsRow b1 e1 s1 v1 n1 x1)(h2:W.ownsRow b2 e2 s2 v2 n2 x2)(hne:e1≠e2):v1.ownBlock=none∨v1.ownBlock≠v2.ownBlock:=by
 rcases h1.2 with⟨rfl,_⟩ | ⟨g,cap,cur,rfl,_,hgb,_⟩
 ·exact .inl rfl
 ·refine .inr fun e'=> ?_
  exact Zao h2 (show Blk W g e1 cur from hgb) (fun e=>hne e.symm) (by rw[<-e'];rfl)
structure Zl0 (B0:Nat)(st:Int)(block:List UInt8)(A:Option Addr)(len cap:Nat)(v:Value)(Vs:List Value)(pre:List (Fin (Zaq block.length)))(W:World):Prop where
 box:Boxed W (B0+1) 131 v
 row:W.ownsRow B0 134 4 v pre.length (frs st Vs)
 num:Vs.length=pre.length
 body:∀(j:Nat) (V:Value) (x:Fin (Zaq block.length)),Vs[j]? =some V->pre[j]? =some x->W.ownsRow B0 5 1 V (pcB block x.1).length (bs (pcB block x.1))
 s:Boxed W B0 3 (.int .i64 st)
 b:Boxed W (B0+2) 23 (.slice A len cap)
 n:Boxed W (B0+3) 3 (.int .i64 1024)
section
variable {B0 len cap:Nat} {st:Int} {block:List UInt8} {A:Option Addr} {v:Value} {Vs:List Value} {pre:List (Fin (Zaq block.length))} {W W' w1:World} {row:Option Nat}
theorem Zl0.kept (h:Zl0 B0 st block A len cap v Vs pre W)(hg:W.grownBy W' row)(hr:∀r,row=some r->∃o:Obj,W.heap[r]? =some o/\o.isCells=false):Zl0 B0 st block A len cap v Vs pre W':=
 ⟨Zfz h.box hg hr,Zhw h.row hg hr,h.num,fun j V x h1 h2=>Zhw (h.body j V x h1 h2) hg hr,Zfz h.s hg hr,Zfz h.b hg hr,Zfz h.n hg hr⟩
theorem Zl0.below (h:Zl0 B0 st block A len cap v Vs pre W)(hb:Below W.heap.size W W'):Zl0 B0 st block A len cap v Vs pre W':=h.kept (row:=none) (Zmc hb) (fun r e=>by cases e)
theorem frm_info :(prog.info? 134).map (fun i=>(i.zero,i.size,i.bytes))=some (some (.agg #[.int .i64 0,.int .i64 0,.int .i64 0,.slice none 0 0]),4,48):=by kernel_rfl
theorem Zw9 (w:World)(a b c d:Value)(t:TypeId):∀j u,[a,b,c,d][j]? =some u->(w.alloc (.cells #[a,b,c,d] t)).cell? ((⟨w.heap.size,0,none⟩:Addr).add j)=some u:=by
 intro j u hj
 have h:=(Blk.new w t #[a,b,c,d]).cell j
 have e:(⟨w.heap.size,0,none⟩:Addr).add j=⟨w.heap.size,j,none⟩:=by simp[Addr.add];try omega
 rw[e,h]
 simpa using hj
theorem Zt7 (h:Zl0 B0 st block A len cap v Vs pre W)(hW:B0<=W.heap.size)(hpre:pre.length+1<=1000000000000)(hb:Below W.heap.size W w1)(x:Fin (Zaq block.length))(A':Option Addr)(c':Nat)
  (hV:w1.ownsRow W.heap.size 5 1 (.slice A' (pcB block x.1).length c') (pcB block x.1).length (bs (pcB block x.1))):
  ∃g' cap' w2,(Builtin.append_ #[131,131] 131 #[v,.slice (some ⟨w1.heap.size,0,none⟩) 1 1]).run prog (w1.alloc (.cells #[.int .i64 2,.int .i64 0,.int .i64 st,.slice A' (pcB block x.1).length c'] 134))=.ok (.slice (some ⟨g',0,none⟩) (pre.length+1) cap') w2/\
   w2.cell? ⟨B0+1,0,none⟩=some v/\w2.frozen? ⟨B0+1,0,none⟩=false/\w2.cell? ⟨B0,0,none⟩=some (.int .i64 st)/\
   Zl0 B0 st block A len cap (.slice (some ⟨g',0,none⟩) (pre.length+1) cap') (Vs++[.slice A' (pcB block x.1).length c']) (pre++[x]) (w2.setCell ⟨B0+1,0,none⟩ (.slice (some ⟨g',0,none⟩) (pre.length+1) cap'))/\
   Zjd (B0+2) (B0+3) W (w2.setCell ⟨B0+1,0,none⟩ (.slice (some ⟨g',0,none⟩) (pre.length+1) cap'))/\
   KeepsOthers W (w2.setCell ⟨B0+1,0,none⟩ (.slice (some ⟨g',0,none⟩) (pre.length+1) cap'))/\
   Below B0 W (w2.setCell ⟨B0+1,0,none⟩ (.slice (some ⟨g',0,none⟩) (pre.length+1) cap')):=by
 have h1:=h.below hb
 obtain⟨i0,hi,hz0,hz1,hz2⟩:=info_parts frm_info
 obtain⟨Wa,hWa⟩:=exl (w1.alloc (.cells #[.int .i64 2,.int .i64 0,.int .i64 st,.slice A' (pcB block x.1).length c'] 134))
 have hga:w1.grownBy Wa none:=by rw[<-hWa];exact World.grownBy_alloc w1 _ none
 have ha:=h1.kept hga (fun r e=>by cases e)
 have hVa:=Zhw hV hga (fun r e=>by cases e)
 have hsz:=hb.size
 have hsza:=hga.size
 have hcn:=Zw9 w1 (.int .i64 2) (.int .i64 0) (.int .i64 st) (.slice A' (pcB block x.1).length c') 134
 rw[hWa]at hcn⊢
 obtain⟨v',w2,hrun,hown2,hg2,-⟩:=run_append_own (P:=prog) (w:=Wa) B0 131 131 134 i0 _ 4 48 underlying131 hi hz0 hz1 hz2 rfl (by decide) v pre.length (frs st Vs) ha.row ⟨w1.heap.size,0,none⟩ 1 1 [.int .i64 2,.int .i64 0,.int .i64 st,.slice A' (pcB block x.1).length c'] rfl hcn
  (by intro u hu;simp only[List.mem_cons,List.not_mem_nil,or_false]at hu;rcases hu with rfl | rfl | rfl | rfl <;> rfl) (by unfold maxLen;omega) (by omega) (by omega)
 obtain⟨g',cap',rfl⟩:=ownsRow_succ hown2
 have hb2:Boxed w2 (B0+1) 131 v:=ha.box.kept hg2 (ha.box.not_row (by decide) ha.row)
 have hs2:=ha.s.kept hg2 (ha.s.not_row (by decide) ha.row)
 have hbb2:=ha.b.kept hg2 (ha.b.not_row (by decide) ha.row)
 have hn2:=ha.n.kept hg2 (ha.n.not_row (by decide) ha.row)
 have hgs:=grownBy_setCell' w2 (B0+1) (.slice (some ⟨g',0,none⟩) (pre.length+1) cap')
 have hs3:=hs2.other (B':=B0+1) (by omega) (.slice (some ⟨g',0,none⟩) (pre.length+1) cap')
 have hbb3:=hbb2.other (B':=B0+1) (by omega) (.slice (some ⟨g',0,none⟩) (pre.length+1) cap')
 have hn3:=hn2.other (B':=B0+1) (by omega) (.slice (some ⟨g',0,none⟩) (pre.length+1) cap')
 have keepV:∀(V:Value) (m base:Nat) (xs:List Value),Wa.ownsRow base 5 1 V m xs->(w2.setCell ⟨B0+1,0,none⟩ (.slice (some ⟨g',0,none⟩) (pre.length+1) cap')).ownsRow base 5 1 V m xs:=fun V m base xs hX=>by
  have hX2:=hX.kept hg2 (Zv4 hX ha.row (by decide))
  exact hX2.kept hgs (.inr (fun e=>Zao hX2 (show Blk w2 (B0+1) 131 #[v]from hb2) (by decide) e))
 refine⟨g',cap',w2,hrun,hb2.cell,hb2.frozen,hs2.cell,⟨hb2.set _,?_,by simp[h.num],?_,hs3,hbb3,hn3⟩,⟨by rw[hbb3.cell,h.b.cell],by rw[hn3.cell,h.n.cell]⟩,?_,?_⟩
 ·rw[frs_snoc,List.length_append]
  exact hown2.kept hgs (.inr (fun e=>Zao hown2 (show Blk w2 (B0+1) 131 #[v]from hb2) (by decide) e))
 ·intro j V y hj hy
  by_cases hlt:j < pre.length
  ·rw[List.getElem?_append_left (by rw[h.num];exact hlt)]at hj
   rw[List.getElem?_append_left hlt]at hy
   exact keepV _ _ _ _ (ha.body j V y hj hy)
  ·have hjl:j < (pre++[x]).length:=by
    rcases Nat.lt_or_ge j (pre++[x]).length with h0 | h0
    ·exact h0
    ·rw[List.getElem?_eq_none h0]at hy
     cases hy
   have ej:j=pre.length:=by simp at hjl;omega
   subst ej
   rw[List.getElem?_append_right (Nat.le_refl _)]at hy
   rw[List.getElem?_append_right (by rw[h.num];exact Nat.le_refl _),h.num]at hj
   simp at hj hy
   subst hj
   subst hy
   have:=keepV _ _ _ _ hVa
   exact⟨this.1,by
    rcases this.2 with h0 | ⟨g,cp,cur,he,hbase,hrest⟩
    ·exact .inl h0
    ·exact .inr ⟨g,cp,cur,he,by omega,hrest⟩⟩
 ·have k0:KeepsOthers W w1:=⟨hb.size,fun k o hk _=>(hb.block k (Array.getElem?_eq_some_iff.1 hk).1).trans hk⟩
  have k1:KeepsOthers w1 Wa:=by rw[<-hWa];exact KeepsOthers.alloc _ _
  refine((k0.trans k1).trans (KeepsOthers.of_grownBy hg2 fun j o ej hj=> ?_)).trans (KeepsOthers.setCell _ _ _)
  rcases ha.row.2 with⟨rfl,_⟩ | ⟨g,cap,cur,rfl,_,hgb,_⟩
  ·simp[Value.ownBlock]at ej
  ·obtain rfl:g=j:=by simpa [Value.ownBlock]using ej
   rw[hgb]at hj;cases hj;rfl
 ·have b1:Below B0 W Wa:=by rw[<-hWa];exact(hb.mono hW).alloc (by omega) _
  refine(b1.grown hg2 (by omega) fun j ej=> ?_).setCell (p:=⟨B0+1,0,none⟩) (by show B0<=B0+1;omega) _
  exact(ha.row.lt j ej).1
end
def SplC (B0:Nat)(X:World)(g:Nat)(m:Nat)(block:List UInt8)(fin:Bool)(st:Int):Prop:=∀i,i < m->
  ∃A' c',X.cell? ⟨g,4*i,none⟩=some (.int .i64 (if i=0 then 1 else 2))/\X.cell? ⟨g,4*i+1,none⟩=some (.int .i64 ((if i=0 then(if fin then 1 else 0)else 0)+if i+1=m then 4 else 0))/\
   X.cell? ⟨g,4*i+2,none⟩=some (.int .i64 st)/\X.cell? ⟨g,4*i+3,none⟩=some (.slice A' (pcB block i).length c')/\Zab X X.heap.size 1 A' (pcB block i).length (bs (pcB block i))/\(A'=none->c'=0)/\B0<=g/\∀ad,A'=some ad->B0<=ad.block
def Splat (w w':World)(st:Int)(block:List UInt8)(fin:Bool)(A:Option Addr)(m:Nat):Prop:=
 m=max 1 (Zaq block.length)/\Below w.heap.size w w'/\∃g,A=some ⟨g,0,none⟩/\g < w'.heap.size/\SplC w.heap.size w' g m block fin st
theorem Zdh {X:World}{D:Nat}{a b:Option (List Deferred)}(h:X.heap[D]? =some (.deferred a))(p:Addr):(X.putObj D (.deferred b)).cell? p=X.cell? p:=by
 have hlt:=(Array.getElem?_eq_some_iff.1 h).1
 by_cases hp:p.block=D
 ·have h1:(X.putObj D (.deferred b)).heap[p.block]? =some (.deferred b):=by rw[hp];exact World.putObj_heap_same hlt
  have h2:X.heap[p.block]? =some (.deferred a):=by rw[hp];exact h
  unfold World.cell?
  rw[h1,h2]
 ·have h1:(X.putObj D (.deferred b)).heap[p.block]? =X.heap[p.block]? :=World.putObj_heap_other (fun e=>hp (by omega))
  unfold World.cell?
  rw[h1]
theorem Zkq (X:World)(D:Nat)(o:Obj):(X.putObj D o).heap.size=X.heap.size:=by simp[World.putObj]
theorem Ze6 {w X:World}{D g m:Nat}{st:Int}{block:List UInt8}{fin:Bool}(hm:m=max 1 (Zaq block.length))(hX:Below w.heap.size w X)(hD:w.heap.size<=D)(hK:X.heap[D]? =some (.deferred (some [])))(hg:g < X.heap.size)(hc:SplC w.heap.size X g m block fin st):
  Splat w (X.putObj D (.deferred none)) st block fin (some ⟨g,0,none⟩) m:=by
 have hlt:=(Array.getElem?_eq_some_iff.1 hK).1
 refine⟨hm,hX.trans ((Below.refl w.heap.size X).grown (grownBy_putObj' X D _) (by omega) (fun k e=>by cases e;omega)),g,rfl,by rw[Zkq];exact hg,fun i hi=> ?_⟩
 obtain⟨A',c',h0,h1,h2,h3,h4,h5⟩:=hc i hi
 refine⟨A',c',by rw[Zdh hK];exact h0,by rw[Zdh hK];exact h1,by rw[Zdh hK];exact h2,by rw[Zdh hK];exact h3,?_,h5⟩
 rw[Zkq]
 exact h4.keep fun p _=>Zdh hK p
theorem Zbc (w:World)(g:Nat){a b:Nat}(v:Value)(h:a≠b):(w.setCell ⟨g,a,none⟩ v).cell? ⟨g,b,none⟩=w.cell? ⟨g,b,none⟩:=
 World.cell?_setCell_other _ _ _ _ (fun e=>h (by cases e;rfl))
theorem Zfp {w:World}{g a:Nat}{u:Value}(v:Value)(h:w.cell? ⟨g,a,none⟩=some u):(w.setCell ⟨g,a,none⟩ v).cell? ⟨g,a,none⟩=some v:=World.cell?_setCell_same _ _ _ h
theorem Zgj (W:World)(g a:Nat)(v:Value):W.grownBy (W.setCell ⟨g,a,none⟩ v) (some g):=
 ⟨rfl,rfl,rfl,by rw[World.size_setCell];exact Nat.le_refl _,fun k _ hk=>Below.heap_setCell _ _ _ k (fun e=>hk (by rw[e]))⟩
theorem Zv3 {w:World}{B size n:Nat}{e:TypeId}{v:Value}{xs:List Value}(h:w.ownsRow B e size v n xs):∃A c,v=.slice A n c/\(A=none->c=0):=by
 rcases h.2 with⟨rfl,rfl⟩ | ⟨g,cap,cur,rfl,_⟩
 ·exact⟨_,_,rfl,fun _=>rfl⟩
 ·exact⟨_,_,rfl,fun h=>by cases h⟩
def Zcc (W:World)(g k:Nat)(fin:Bool):World:=
 (if fin then(W.setCell ⟨g,0,none⟩ (.int .i64 1)).setCell ⟨g,1,none⟩ (.int .i64 1)else W.setCell ⟨g,0,none⟩ (.int .i64 1)).setCell ⟨g,4*k+1,none⟩ (.int .i64 ((if k=0 then(if fin then 1 else 0)else 0)+4))
theorem Zby (W:World)(g k:Nat)(fin:Bool):W.grownBy (Zcc W g k fin) (some g):=by
 have key:∀X Y Z:World,X.grownBy Y (some g)->Y.grownBy Z (some g)->X.grownBy Z (some g):=fun X Y Z h1 h2=>
  ⟨h2.os.trans h1.os,h2.tape.trans h1.tape,h2.output.trans h1.output,Nat.le_trans h1.size h2.size,fun k hk hne=>(h2.block k (Nat.lt_of_lt_of_le hk h1.size) hne).trans (h1.block k hk hne)⟩
 unfold Zcc
 cases fin
 ·exact key _ _ _ (Zgj W g 0 _) (Zgj _ g _ _)
 ·exact key _ _ _ (key _ _ _ (Zgj W g 0 _) (Zgj _ g 1 _)) (Zgj _ g _ _)
theorem Zus {B0:Nat}(X:World)(g:Nat)(hBg:B0<=g)(st:Int)(block:List UInt8)(h0:Zaq block.length=0)(fin:Bool)(hb:Blk X g 134 #[.int .i64 1,.int .i64 ((if fin then 1 else 0)+4),.int .i64 st,.slice none 0 0]):SplC B0 X g 1 block fin st:=by
 intro i hi
 have e:i=0:=by omega
 subst e
 have hl:block.length=0:=by unfold Zaq at h0;omega
 have hp:(pcB block 0).length=0:=by rw[Zek];omega
 have hpn:pcB block 0=[]:=List.eq_nil_of_length_eq_zero hp
 refine⟨none,0,by simpa using hb.cell 0,?_,by simpa using hb.cell 2,?_,?_,fun _=>rfl,hBg,fun ad e=>by cases e⟩
 ·have:=hb.cell 1
  simpa using this
 ·rw[hpn]
  simpa using hb.cell 3
 ·rw[hpn]
  exact Zab.none_
theorem Zft (W:World)(g k:Nat)(fin:Bool):(Zcc W g k fin).heap.size=W.heap.size:=by
 unfold Zcc
 cases fin <;> simp
theorem Zp1 {W:World}{g k:Nat}{st:Int}{Vs:List Value}(fin:Bool)(hVl:Vs.length=k+1)
  (hcl:∀(i:Nat) (V:Value),Vs[i]? =some V->W.cell? ⟨g,4*i,none⟩=some (.int .i64 2)/\W.cell? ⟨g,4*i+1,none⟩=some (.int .i64 0)/\W.cell? ⟨g,4*i+2,none⟩=some (.int .i64 st)/\W.cell? ⟨g,4*i+3,none⟩=some V)
  (i:Nat) (V:Value) (hi:Vs[i]? =some V):
  (Zcc W g k fin).cell? ⟨g,4*i,none⟩=some (.int .i64 (if i=0 then 1 else 2))/\(Zcc W g k fin).cell? ⟨g,4*i+1,none⟩=some (.int .i64 ((if i=0 then(if fin then 1 else 0)else 0)+if i+1=k+1 then 4 else 0))/\
   (Zcc W g k fin).cell? ⟨g,4*i+2,none⟩=some (.int .i64 st)/\(Zcc W g k fin).cell? ⟨g,4*i+3,none⟩=some V:=by
 obtain⟨u0,u1,u2,u3⟩:=hcl i V hi
 have hlt:i < k+1:=by
  rw[<-hVl]
  exact(List.getElem?_eq_some_iff.1 hi).1
 unfold Zcc
 cases fin
 ·simp only[Bool.false_eq_true,if_false]
  refine⟨?_,?_,?_,?_⟩
  ·rw[Zbc _ _ _ (by omega)]
   by_cases h0:i=0
   ·subst h0
    rw[if_pos rfl]
    exact Zfp _ u0
   ·rw[if_neg h0,Zbc _ _ _ (by omega)]
    exact u0
  ·by_cases hk:i=k
   ·subst hk
    rw[if_pos rfl]
    exact Zfp _ ((Zbc _ _ _ (by omega)).trans u1)
   ·have e:((if i=0 then 0 else 0)+if i+1=k+1 then 4 else 0:Int)=0:=by simp[hk]
    rw[e,Zbc _ _ _ (show 4*k+1≠4*i+1 by omega),Zbc _ _ _ (show 0≠4*i+1 by omega),u1]
  ·rw[Zbc _ _ _ (by omega),Zbc _ _ _ (by omega)]
   exact u2
  ·rw[Zbc _ _ _ (by omega),Zbc _ _ _ (by omega)]
   exact u3
 ·simp only[if_true]
  refine⟨?_,?_,?_,?_⟩
  ·rw[Zbc _ _ _ (by omega),Zbc _ _ _ (by omega)]
   by_cases h0:i=0
   ·subst h0
    rw[if_pos rfl]
    exact Zfp _ u0
   ·rw[if_neg h0,Zbc _ _ _ (by omega)]
    exact u0
  ·by_cases hk:i=k
   ·subst hk
    rw[if_pos rfl]
    by_cases h0:i=0
    ·subst h0
     exact Zfp _ (Zfp _ ((Zbc W g (.int .i64 1) (show 0≠4*0+1 by omega)).trans u1))
    ·exact Zfp _ ((Zbc _ _ _ (show 1≠4*i+1 by omega)).trans ((Zbc W g (.int .i64 1) (show 0≠4*i+1 by omega)).trans u1))
   ·rw[Zbc _ _ _ (show 4*k+1≠4*i+1 by omega)]
    by_cases h0:i=0
    ·subst h0
     have e:((if(0:Nat)=0 then 1 else 0)+if 0+1=k+1 then 4 else 0:Int)=1:=by
      have:¬k=0:=fun e=>hk e.symm
      simp[this]
     rw[e]
     exact Zfp _ ((Zbc W g (.int .i64 1) (show 0≠4*0+1 by omega)).trans u1)
    ·have e:((if i=0 then 1 else 0)+if i+1=k+1 then 4 else 0:Int)=0:=by simp[h0,hk]
     rw[e,Zbc _ _ _ (show 1≠4*i+1 by omega),Zbc _ _ _ (show 0≠4*i+1 by omega),u1]
  ·rw[Zbc _ _ _ (by omega),Zbc _ _ _ (by omega),Zbc _ _ _ (by omega)]
   exact u2
  ·rw[Zbc _ _ _ (by omega),Zbc _ _ _ (by omega),Zbc _ _ _ (by omega)]
   exact u3
theorem Zwb {B0 len cap k g cp:Nat}{st:Int}{block:List UInt8}{A:Option Addr}{Vs:List Value}{ys:List (Fin (Zaq block.length))}{W:World}
  (hS:Zl0 B0 st block A len cap (.slice (some ⟨g,0,none⟩) (k+1) cp) Vs ys W) (hys:ys.map Fin.val=List.range (Zaq block.length)) (hk:Zaq block.length=k+1) (fin:Bool):
  SplC B0 (Zcc W g k fin) g (k+1) block fin st/\g < W.heap.size/\W.cell? ⟨g,0,none⟩=some (.int .i64 2)/\W.cell? ⟨g,1,none⟩=some (.int .i64 0)/\W.cell? ⟨g,k*4+1,none⟩=some (.int .i64 0)/\(∀j,W.frozen? ⟨g,j,none⟩=false)/\g≠B0+1/\B0<=g/\∃cur,Blk W g 134 cur:=by
 have hyl:ys.length=k+1:=by
  have:=congrArg List.length hys
  simpa [hk]using this
 have hrow:=hS.row
 rw[hyl]at hrow
 have hVl:Vs.length=k+1:=by rw[hS.num,hyl]
 have hcl:∀(i:Nat) (V:Value),Vs[i]? =some V->W.cell? ⟨g,4*i,none⟩=some (.int .i64 2)/\W.cell? ⟨g,4*i+1,none⟩=some (.int .i64 0)/\W.cell? ⟨g,4*i+2,none⟩=some (.int .i64 st)/\W.cell? ⟨g,4*i+3,none⟩=some V:=by
  intro i V hi
  obtain⟨e0,e1,e2,e3⟩:=frs_at st Vs i V hi
  have hc:=hrow.cells rfl
  have key:∀j,(⟨g,0,none⟩:Addr).add j=⟨g,j,none⟩:=fun j=>by simp[Addr.add];try omega
  have k0:=hc _ _ e0
  have k1:=hc _ _ e1
  have k2:=hc _ _ e2
  have k3:=hc _ _ e3
  rw[key]at k0 k1 k2 k3
  exact⟨k0,k1,k2,k3⟩
 have hgb:∃cur,Blk W g 134 cur/\B0<=g:=by
  rcases hrow.2 with⟨he,_⟩ | ⟨g',cap',cur,he,hb,hh,_⟩
  ·cases he
  ·cases he
   exact⟨cur,hh,hb⟩
 obtain⟨cur,hblk,hBg⟩:=hgb
 have u0:=hcl 0 _ (List.getElem?_eq_getElem (by omega))
 have uk:=hcl k _ (List.getElem?_eq_getElem (by omega))
 refine⟨fun i hi=> ?_,hblk.lt,u0.1,u0.2.1,by rw[Nat.mul_comm];exact uk.2.1,fun j=>hblk.frozen j,fun e=>hblk.ne_ (show Blk W (B0+1) 131 #[_]from hS.box) (by decide) e,hBg,cur,hblk⟩
 have hiV:Vs[i]? =some Vs[i]:=List.getElem?_eq_getElem (by omega)
 have hiy:ys[i]? =some ys[i]:=List.getElem?_eq_getElem (by omega)
 have hval:(ys[i]).1=i:=by
  have h1:(ys.map Fin.val)[i]? =(List.range (Zaq block.length))[i]? :=by rw[hys]
  rw[List.getElem?_map,hiy,List.getElem?_range (by omega)]at h1
  simpa using h1
 have hown:=hS.body i _ _ hiV hiy
 rw[hval]at hown
 generalize Vs[i]=V at*
 obtain⟨A',c',rfl,hc0⟩:=Zv3 hown
 obtain⟨m0,m1,m2,m3⟩:=Zp1 fin hVl hcl i _ hiV
 have hown2:(Zcc W g k fin).ownsRow B0 5 1 (.slice A' (pcB block i).length c') (pcB block i).length (bs (pcB block i)):=hown.kept (Zby W g k fin) (.inr (Zao hown hblk (by decide)))
 exact⟨A',c',m0,m1,m2,m3,Zab.of_own hown2,hc0,hBg,fun ad e=>(hown.lt ad.block (by rw[e];rfl)).1⟩
end
section
open Go.RowKit
variable {P:Program} {md:Region.Mode} {ops:Array Oper} {Q:Exit->Act->World->Prop} {l n:Nat}
theorem Zl3 (hnd:∀(i:Nat) (o:Oper),ops[i]? =some o->∀c,o.op≠ .defer c)(hL:¬LetsOut Q){i:Nat}{K K':Act->World->Prop}{a:Act}{w:World}(hK:∀a w,K a w->K' a w)
  (h:wpOp P ops Q i K a w):wpOpIn (Fence.wide.inRound l) n P ops Q i K' a w:=by
 unfold wpOp at h
 unfold wpOpIn
 cases hoi:ops[i]? with
 | none=>
  rw[hoi]at h
  exact hK _ _ h
 | some o=>
  rw[hoi]at h
  dsimp only at h⊢
  split at h
  ·rename_i hw
   rw[if_pos hw]
   rcases h with h | ⟨_,h⟩
   ·refine⟨fun _ _=>trivial,?_⟩
    rw[Oper.semAt_eq _ _ _ (hnd i o hoi)]
    unfold Oper.wp at h
    generalize (execOp a.eval o).run P w=r at h⊢
    cases r with
    | ok nx w'=>
     cases nx with
     | value v=>exact hK _ _ h
     | skip=>exact hK _ _ h
     | defer d=>exact hK _ _ h
     | enter f args=>
      refine⟨fun h0=>(by cases h0),CallsIn.inRound l (callsIn_wide.2 ?_)⟩
      refine Calls.mono (show Calls P f args w' _ from h) ?_
      intro e w'' he
      cases e with
      | returned v=>exact hK _ _ he
      | panicked chain=>exact he
      | outgrown=>exact absurd he hL
     | row row args=>
      refine⟨fun h0=>(by cases h0),fun c cs _=> ?_⟩
      obtain⟨v,w'',h1,h2⟩:=(show Rows P row args w' _ from h) c cs
      exact⟨v,w'',hK _ _ h1,stepsIn_wide.2 h2⟩
     | _=>exact h.elim
    | halt s w'=>
     cases s with
     | panic v=>exact h
     | _=>exact h.elim
   ·exact absurd h hL
  ·rename_i hw
   rw[if_neg hw]
   exact⟨fun _ _=>trivial,hK _ _ h⟩
theorem Zf3 (hnd:∀(i:Nat) (o:Oper),ops[i]? =some o->∀c,o.op≠ .defer c)(hL:¬LetsOut Q):∀(fuel:Nat) (listed:Array Bool) (a:Act) (w:World),wpAny P md ops Q fuel listed a w->wpAnyIn (Fence.wide.inRound l) n P md ops Q fuel listed a w
 | 0,_,_,_,h=>h
 | fuel+1,_,_,_,h=>⟨h.1,fun i hi=>Zl3 hnd hL (fun a' w' h'=>Zf3 hnd hL fuel _ a' w' h') (h.2 i hi)⟩
def OnlyN (Q:Exit->Act->World->Prop):Exit->Act->World->Prop
 | .normal,a,w=>Q .normal a w
 | _,_,_=>False
def Zzl (o:Oper):Bool:=match o.op with
 | .defer _=>false
 | _=>true
theorem Zkv {S:World->Prop}{id:Nat}{a:Act}{w:World}(hm:P.follows .mixedOrders=true)(hnd:ops.toList.all Zzl=true)(hS:S w.drew)
  (h:S w.drew->wpAnyH P .any ops (OnlyN Q) S ops.size (Array.replicate ops.size false) a w.drew):(Code.region id ops true).wpIn (Fence.wide.inRound l) n P Q a w:=by
 refine wpIn_mono (Q:=OnlyN Q) ?_ ?_
 ·refine wpIn_region_any hm (Zf3 ?_ ?_ _ _ _ _ (wpAny_of_held _ _ _ _ (h hS)))
  ·intro i o ho c hc
   have hmem:o∈ops.toList:=by
    obtain⟨hlt,e⟩:=Array.getElem?_eq_some_iff.1 ho
    rw[<-e]
    exact Array.getElem_mem_toList hlt
   have:=List.all_eq_true.1 hnd o hmem
   unfold Zzl at this
   rw[hc]at this
   cases this
  ·rintro⟨a',w',h'⟩
   exact h'
 ·intro e a' w' h'
  cases e with
  | normal=>exact h'
  | _=>exact h'.elim
theorem Zfm {o:Oper}{a:Act}{w w':World}{K:Act->World->Prop}{s x:Operand}{t:TypeId}(ho:o.op=.call {callee:=.builtin .append,args:= #[s,x],argTypes:= #[t,t]}){v vx v':Value}(hs:a.eval s=v)(hx:a.eval x=vx)
  (hr:(Builtin.append_ #[t,t] o.type #[v,vx]).run P w=.ok v' w') (h:K (a.put o.dst v') w'):Oper.wp P o a w K Q:=by
 unfold Oper.wp
 simp[execOp,ho,resolve,invoke,builtin,hs,hx,hr,Result.andThen]
 exact h
end
end Go.Proofs.YtbgnggkgmeagkaaGreatDoor
