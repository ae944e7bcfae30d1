/-
  A part of the proof of TopAlike: each theorem states its own conditions.
-/
import Derived.Test.YtbgnggkgmeagkaaGreatDoorMTopAlike11
import Derived.Sort.CutIn
import Derived.Lib.SlBytesConst
set_option linter.unusedSimpArgs false
set_option linter.unusedVariables false
set_option maxRecDepth 100000
set_option maxHeartbeats 16000000
namespace Go.Proofs.YtbgnggkgmeagkaaGreatDoor
open Go.Proofs.Tryz
section
open Go.RowKit Go.Shelf
attribute [local go_sem] Oper.semAt_some
theorem chunk_in (F:Fence)(n:Nat)(h81:F.fn 105)(hro:F.round=none)(A:Option Addr)(len cap:Nat)(w:World):
  CallsIn F n prog 105 #[.slice A len cap,.int .i64 1024] w fun e w'=>e=.returned (.func (.func 159) #[] #[.pointer (some ⟨w.heap.size,0,none⟩),.pointer (some ⟨w.heap.size+1,0,none⟩)])/\w'=(w.alloc (.cells #[.slice A len cap] 23)).alloc (.cells #[.int .i64 1024] 3):=by
 refine callsIn_of_wp func105 rfl h81 ?_ hro
 simp only[ntmps105,List.size_toArray,List.length_cons,List.length_nil,Nat.reduceAdd,Nat.reduceSub,Array.replicate_succ,Array.replicate_zero,List.push_toArray,List.append_toArray,List.nil_append,List.cons_append]
 gi_wp2
 go_ret
 exact⟨rfl,rfl⟩
theorem Zjs (F:Fence)(n:Nat)(h7:F.fn 159)(hro:F.round=none)(l Bs Bn:Nat)(a:Option Addr)(cap:Nat)(J:World->Prop)(W:World)(hs:W.cell? ⟨Bs,0,none⟩=some (.slice a 0 cap))(h0:J W):
  CallsIn F n prog 159 #[.func (.yield l) #[] #[],.pointer (some ⟨Bs,0,none⟩),.pointer (some ⟨Bn,0,none⟩)] W fun e W'=>(∃v,e=.returned v)/\J W':=by
 refine callsIn_of_wp func159 rfl h7 ?_ hro
 simp only[ntmps159,List.size_toArray,List.length_cons,List.length_nil,Nat.reduceAdd,Nat.reduceSub,Array.replicate_succ,Array.replicate_zero,List.push_toArray,List.append_toArray,List.nil_append,List.cons_append]
 gi_wp2
 gi_loopw [4] (fun i wr=>i=.int .i64 0/\wr=W) (fun _ _=>0)
 case atStart=>exact⟨rfl,rfl⟩
 case round=>
  obtain⟨rfl,rfl⟩:=hrel
  gi_wp2
  go_end0
  exact⟨⟨_,rfl⟩,h0⟩
theorem Ztg (F:Fence)(n:Nat)(h7:F.fn 159)(hro:F.round=none)(hn:1<=n)(Bs Bn:Nat)(A:Option Addr)(len cap:Nat)(hlc:len<=cap)(hm:len<=140737488355328)(hA:0 < len->∃b off,A=some ⟨b,off,none⟩)(w:World)
  (hBs:Bs < w.heap.size) (hBn:Bn < w.heap.size) (hs:w.cell? ⟨Bs,0,none⟩=some (.slice A len cap)) (hn4:w.cell? ⟨Bn,0,none⟩=some (.int .i64 1024)):
  SeqStopsK F n prog 159 #[.pointer (some ⟨Bs,0,none⟩),.pointer (some ⟨Bn,0,none⟩)] (fun x:Fin (Zaq len)=> #[Zmw A len x.1]) (Zjd Bs Bn) (fun ys=>ys.map Fin.val=List.range (Zaq len)) (fun _=>True) (Zaq len) w:=fun l J Jx W hW hJ hJx hY h0=>by
 have hs':=(hW.cell (p:=⟨Bs,0,none⟩) hBs).trans hs
 have hn':=(hW.cell (p:=⟨Bn,0,none⟩) hBn).trans hn4
 rcases Nat.eq_zero_or_pos len with rfl | hpos
 ·refine(Zjs F n h7 hro l Bs Bn A cap (J []) W hs' h0).mono ?_
  rintro e W' ⟨he,hj⟩
  exact⟨he,.inl ⟨[],by simp[Zaq],hj⟩⟩
 ·obtain⟨b,off,rfl⟩:=hA hpos
  refine Z1c F n h7 hro hn l Bs Bn b off len cap hlc hm J Jx ?_ (fun pre x W1 hJ1 hlt=> ?_) W hs' hn' h0
  ·intro pre W1 h1
   exact hJ pre W1 W1.drew none h1 ⟨rfl,rfl,rfl,Nat.le_refl _,fun _ _ _=>rfl⟩ (fun r e=>by cases e)
  ·have:=hY pre x W1 hJ1 hlt
   have e:Zmw (some ⟨b,off,none⟩) len x.1=Zui b off len x.1:=by simp[Zmw,Zui,Addr.add]
   simp only[e]at this
   exact this
theorem k_pos {k:Nat}(h:0 < k):k≠0/\k*4+1≠1:=by omega
theorem k_wrap {k n:Nat}(hk:n=k+1)(hn:n<=1000000000000):(0:Int)<=((k:Nat):Int)/\((k:Nat):Int) < ((k+1:Nat):Int)/\((k+1:Nat):Int)-1=((k:Nat):Int)/\wrap64 ((k:Nat):Int)=((k:Nat):Int):=by
 refine⟨by omega,by omega,by omega,?_⟩
 unfold wrap64
 omega
theorem k_wrap2 {k m:Nat}(hk:m=k+1)(hn:m<=1000000000000):∃(n:Nat) (z:Int),n=k+1/\0<=z/\z < ((n:Nat):Int)/\z.toNat=k/\wrap64 (((n:Nat):Int)-1)=z/\(((n:Nat):Int)==0)=false/\(0:Int) < ((n:Nat):Int):=by
 refine⟨k+1,(k:Int),rfl,by omega,by omega,by omega,?_,?_,by omega⟩
 ·unfold wrap64
  omega
 ·simp
  omega
theorem n_max {k m n:Nat}(hk:m=k+1)(hn:n=k+1):n=max 1 m:=by omega
theorem d_le {a b D:Nat}(h:b=a+4)(hD:b<=D):a<=D:=by omega
theorem Zpu {n:Nat}(h:n<=140737488355328):Zaq n<=1000000000000:=by unfold Zaq;omega
theorem Zph (st:Int)(block:List UInt8)(A:Option Addr)(len c:Nat)(hlen:len=block.length)(hm:block.length<=140737488355328)(hcap:block.length<=c)(fin:Bool)(w:World)(hr:Zab w w.heap.size 1 A block.length (bs block)):
  CA 57 #[.int .i64 st,.slice A len c,.bool fin] w fun e w'=>∃A' m c',e=.returned (.slice A' m c')/\Splat w w' st block fin A' m:=by
 subst hlen
 refine(callsIn_wide (n:=7)).1 ?_
 refine callsIn_of_wp_marks func57 rfl trivial ?_ rfl
 simp only[ntmps57,List.size_toArray,List.length_cons,List.length_nil,Nat.reduceAdd,Nat.reduceSub,Array.replicate_succ,Array.replicate_zero,List.push_toArray,List.append_toArray,List.nil_append,List.cons_append]
 gi_wp2_with (refine⟨trivial,?_⟩;gi_at_call 105;refine(chunk_in Fence.wide _ trivial rfl _ _ _ _).mono ?_;rintro e w' ⟨rfl,rfl⟩)
 obtain⟨W0,hW0⟩:=exl ((((w.alloc (.cells #[.int .i64 st] 3)).alloc (.cells #[.slice none 0 0] 131)).alloc (.cells #[.slice A block.length c] 23)).alloc (.cells #[.int .i64 1024] 3))
 have hsz:W0.heap.size=w.heap.size+4:=by rw[<-hW0];simp
 have hB0:Below w.heap.size w W0:=by
  rw[<-hW0]
  exact((((Below.refl _ w).alloc (Nat.le_refl _) _).alloc (by simp) _).alloc (by simp;omega) _).alloc (by simp;omega) _
 have hat:Zl0 w.heap.size st block A block.length c (.slice none 0 0) [] [] W0:=by
  have b0:=Boxed.new w 3 (.int .i64 st)
  have b1:=Boxed.new (w.alloc (.cells #[.int .i64 st] 3)) 131 (.slice none 0 0)
  have b2:=Boxed.new ((w.alloc (.cells #[.int .i64 st] 3)).alloc (.cells #[.slice none 0 0] 131)) 23 (.slice A block.length c)
  have b3:=Boxed.new (((w.alloc (.cells #[.int .i64 st] 3)).alloc (.cells #[.slice none 0 0] 131)).alloc (.cells #[.slice A block.length c] 23)) 3 (.int .i64 1024)
  simp only[World.size_alloc]at b1 b2 b3
  rw[<-hW0]
  exact⟨(b1.alloc _).alloc _,World.ownsRow_nil _ _ _ _,rfl,fun j V x h=>by simp at h,((b0.alloc _).alloc _).alloc _,b2.alloc _,b3⟩
 have hA:0 < block.length->∃b off,A=some ⟨b,off,none⟩:=fun h0=>by
  obtain⟨b,off,e,_⟩:=hr.form h0
  exact⟨b,off,e⟩
 rw[hW0]
 refine wpIn_rangeFunc_ownG rfl (by decide) (gf:=159) (lb:= #[.pointer (some ⟨w.heap.size+1+1,0,none⟩),.pointer (some ⟨w.heap.size+1+1+1,0,none⟩)]) rfl trivial (enters_of func159 (by kernel_rfl) rfl)
  (Ztg Fence.wide _ trivial rfl (by decide) (w.heap.size+1+1) (w.heap.size+1+1+1) A block.length c hcap hm hA W0 (by omega) (by omega) hat.b.cell hat.n.cell) (fun h k=>Zjd.trans h k) ?hKb (Below.refl _ _) (fun _=>rfl)
  (fun pre W=>(∃v Vs,Zl0 w.heap.size st block A block.length c v Vs pre W)/\Below w.heap.size w W)
  (fun _ _ _=>False) ?hI (fun _ _ _ _ _ hs _ _=>hs) ⟨⟨_,_,hat⟩,hB0⟩
  (fun x=>{tmps:= #[.int .i64 st,.slice A block.length c,.bool fin,.pointer (some ⟨w.heap.size,0,none⟩),undef,undef,.slice none 0 0,.pointer (some ⟨w.heap.size+1,0,none⟩),Zmw A block.length x.1,.slice A block.length c,.func (.func 159) #[] #[.pointer (some ⟨w.heap.size+1+1,0,none⟩),.pointer (some ⟨w.heap.size+1+1+1,0,none⟩)],Zmw A block.length x.1,undef,undef,undef,undef,undef,undef,undef,undef,undef,undef,undef,undef,undef,undef,undef,undef,undef,undef,undef,undef,undef,undef,undef,undef,undef,undef,undef,undef,undef,undef,undef],defers:=[]}) ?assign ?body ?done ?stop
 case hKb=>as_aux_lemma=>
  intro W l o o' hl ho hc hw
  have key:∀b,b < W0.heap.size->(W.putObj l o').cell? ⟨b,0,none⟩=W.cell? ⟨b,0,none⟩:=fun b hb=>
   ((Below.refl W0.heap.size W).grown (grownBy_putObj' W l o') (by have:=(Array.getElem?_eq_some_iff.1 ho).1;omega) (fun k e=>by cases e;omega)).cell hb
  exact⟨key _ (by omega),key _ (by omega)⟩
 case hI=>as_aux_lemma=>
  refine OwnFrom.and (Own.from (fun s X Y row hs hg hr=> ?_) _) (ownFrom_below (Nat.le_refl _) (by omega))
  obtain⟨v,Vs,h⟩:=hs
  exact⟨v,Vs,h.kept hg hr⟩
 case assign=>as_aux_lemma=>
  intro l x W K hK
  gi_wp2
  exact hK
 case body=>as_aux_lemma=>
  rintro l pre x W ⟨⟨v,Vs,hS⟩,hBw⟩ hlen
  have hRp0:=(pc_reads (hr.below hBw) x.1 x.2).more hBw.size
  have hRp:=Hd (show Zab W.drew W.drew.heap.size 1 (A.map (·.add (1024*x.1))) (pcB block x.1).length (bs (pcB block x.1))from hRp0)
  have hNA:=Hd (show A.map (·.add (1024*x.1))=none->(pcB block x.1).length=0 from fun e=>by
   rcases Nat.eq_zero_or_pos (pcB block x.1).length with h | h
   ·exact h
   ·obtain⟨ad,e',_⟩:=hRp0.2 h
    rw[e]at e'
    cases e')
  have hmy:=Hd (show(pcB block x.1).length<=140737488355328 by rw[Zek];omega)
  clear hRp0
  have hCL:=Hd (Zcd (A.map (·.add (1024*x.1))) (pcB block x.1) (pcB block x.1).length (pcB block x.1).length rfl hNA.out hmy.out W.drew hRp.out)
  have hx:=Zek block x.1
  have c7:=hS.box.cell
  have c3:=hS.s.cell
  have hSz:=hBw.size
  have hpl:pre.length+1<=1000000000000:=by
   have:Zaq block.length<=200000000000:=by unfold Zaq;omega
   omega
  have hmx:prog.follows .mixedOrders=true:=by kernel_rfl
  have HS:=Hd hS
  clear hS
  unfold Zmw
  rw[<-hx]
  have HX:=Hd hx
  clear hx
  gi_wp2
  refine Zkv (S:=fun W'=>W'.cell? ⟨w.heap.size,0,none⟩=some (.int .i64 st)) hmx (by kernel_rfl) c3 (fun hHeld=> ?_)
  refine wpAnyH_take (i:=1) (v:=.int .i64 st) rfl (by kernel_rfl) (by kernel_rfl) (by kernel_rfl) (fun _ _ _ h=>h) (Or.inl ⟨by rfl,fun w' hS=>by dsimp only at hS;go_simp⟩) hHeld ?_
  try simp only[Act.put,List.setIfInBounds_toArray,List.set_cons_zero,List.set_cons_succ]
  refine wpAnyH_take (i:=2) (v:=_) rfl (by kernel_rfl) (by kernel_rfl) (by kernel_rfl) (fun _ _ _ h=>h) (Or.inl ⟨by rfl,fun w' hS=>by go_simp;rfl⟩) hHeld ?_
  try simp only[Act.put,List.setIfInBounds_toArray,List.set_cons_zero,List.set_cons_succ]
  refine wpAnyH_ready (rs:=[0,3]) (by kernel_rfl) (by simp) ?_
  refine AllReadyH.cons rfl (fun K hK=> ?_) (AllReadyH.cons rfl (fun K hK=> ?_) AllReadyH.nil)
  ·go_simp
   refine hK.out _ _ ?_ (fun hHeld=> ?_)
   ·exact c3
   clear hK K
   try simp only[Act.put,List.setIfInBounds_toArray,List.set_cons_zero,List.set_cons_succ]
   refine wpAnyH_ready (rs:=[3]) (by kernel_rfl) (by simp) ?_
   refine AllReadyH.cons rfl (fun K hK=> ?_) AllReadyH.nil
   go_simp
   refine Calls.mono hCL.out ?_
   rintro e w1 ⟨A',c',rfl,hV,hb1⟩
   have hb1':Below W.heap.size W w1:=⟨hb1.os,hb1.tape,hb1.output,hb1.size,hb1.block⟩
   obtain⟨g',cap',w2,hrun,hc2,hf2,hs2,hend⟩:=Zt7 (W:=W) HS.out hSz hpl hb1' x A' c' hV
   have d7:=(HS.out.below hb1').box.cell
   have d3:=(HS.out.below hb1').s.cell
   have HEND:=Hd hend
   clear hend hb1 hb1' hV
   refine hK.out _ _ ?_ (fun hHeld=> ?_)
   ·exact d3
   clear hK K
   try simp only[Act.put,List.setIfInBounds_toArray,List.set_cons_zero,List.set_cons_succ]
   refine wpAnyH_ready (rs:=[4]) (by kernel_rfl) (by simp) ?_
   refine AllReadyH.cons rfl (fun K hK=> ?_) AllReadyH.nil
   go_simp
   refine hK.out _ _ ?_ (fun hHeld=> ?_)
   ·exact d3
   clear hK K
   try simp only[Act.put,List.setIfInBounds_toArray,List.set_cons_zero,List.set_cons_succ]
   refine wpAnyH_ready (rs:=[5]) (by kernel_rfl) (by simp) ?_
   refine AllReadyH.cons rfl (fun K hK=> ?_) AllReadyH.nil
   go_simp
   refine hK.out _ _ ?_ (fun hHeld=> ?_)
   ·exact(by rw[World.cell?_alloc_lt _ _ _ (World.block_lt_of_cell? _ _ d3)];exact d3)
   clear hK K
   try simp only[Act.put,List.setIfInBounds_toArray,List.set_cons_zero,List.set_cons_succ]
   refine wpAnyH_ready (rs:=[6]) (by kernel_rfl) (by simp) ?_
   refine AllReadyH.cons rfl (fun K hK=> ?_) AllReadyH.nil
   (rw[if_pos (by rfl)];refine Zfm rfl rfl rfl hrun ?_;simp only[Act.put,List.setIfInBounds_toArray,List.set_cons_zero,List.set_cons_succ])
   refine hK.out _ _ ?_ (fun hHeld=> ?_)
   ·exact hs2
   clear hK K
   try simp only[Act.put,List.setIfInBounds_toArray,List.set_cons_zero,List.set_cons_succ]
   refine wpAnyH_ready (rs:=[7]) (by kernel_rfl) (by simp) ?_
   refine AllReadyH.cons rfl (fun K hK=> ?_) AllReadyH.nil
   go_simp
   refine hK.out _ _ ?_ (fun hHeld=> ?_)
   ·exact HEND.out.1.s.cell
   clear hK K
   try simp only[Act.put,List.setIfInBounds_toArray,List.set_cons_zero,List.set_cons_succ]
   refine wpAnyH_done (by kernel_rfl) ?_ _
   gi_wp2
   exact⟨HEND.out.2.2.1.from _,HEND.out.2.1,⟨_,_,HEND.out.1⟩,hBw.trans HEND.out.2.2.2⟩
  ·go_simp
   refine Calls.mono hCL.out ?_
   rintro e w1 ⟨A',c',rfl,hV,hb1⟩
   have hb1':Below W.heap.size W w1:=⟨hb1.os,hb1.tape,hb1.output,hb1.size,hb1.block⟩
   obtain⟨g',cap',w2,hrun,hc2,hf2,hs2,hend⟩:=Zt7 (W:=W) HS.out hSz hpl hb1' x A' c' hV
   have d7:=(HS.out.below hb1').box.cell
   have d3:=(HS.out.below hb1').s.cell
   have HEND:=Hd hend
   clear hend hb1 hb1' hV
   refine hK.out _ _ ?_ (fun hHeld=> ?_)
   ·exact d3
   clear hK K
   try simp only[Act.put,List.setIfInBounds_toArray,List.set_cons_zero,List.set_cons_succ]
   refine wpAnyH_ready (rs:=[0,4]) (by kernel_rfl) (by simp) ?_
   refine AllReadyH.cons rfl (fun K hK=> ?_) (AllReadyH.cons rfl (fun K hK=> ?_) AllReadyH.nil)
   ·go_simp
    refine hK.out _ _ ?_ (fun hHeld=> ?_)
    ·exact d3
    clear hK K
    try simp only[Act.put,List.setIfInBounds_toArray,List.set_cons_zero,List.set_cons_succ]
    refine wpAnyH_ready (rs:=[4]) (by kernel_rfl) (by simp) ?_
    refine AllReadyH.cons rfl (fun K hK=> ?_) AllReadyH.nil
    go_simp
    refine hK.out _ _ ?_ (fun hHeld=> ?_)
    ·exact d3
    clear hK K
    try simp only[Act.put,List.setIfInBounds_toArray,List.set_cons_zero,List.set_cons_succ]
    refine wpAnyH_ready (rs:=[5]) (by kernel_rfl) (by simp) ?_
    refine AllReadyH.cons rfl (fun K hK=> ?_) AllReadyH.nil
    go_simp
    refine hK.out _ _ ?_ (fun hHeld=> ?_)
    ·exact(by rw[World.cell?_alloc_lt _ _ _ (World.block_lt_of_cell? _ _ d3)];exact d3)
    clear hK K
    try simp only[Act.put,List.setIfInBounds_toArray,List.set_cons_zero,List.set_cons_succ]
    refine wpAnyH_ready (rs:=[6]) (by kernel_rfl) (by simp) ?_
    refine AllReadyH.cons rfl (fun K hK=> ?_) AllReadyH.nil
    (rw[if_pos (by rfl)];refine Zfm rfl rfl rfl hrun ?_;simp only[Act.put,List.setIfInBounds_toArray,List.set_cons_zero,List.set_cons_succ])
    refine hK.out _ _ ?_ (fun hHeld=> ?_)
    ·exact hs2
    clear hK K
    try simp only[Act.put,List.setIfInBounds_toArray,List.set_cons_zero,List.set_cons_succ]
    refine wpAnyH_ready (rs:=[7]) (by kernel_rfl) (by simp) ?_
    refine AllReadyH.cons rfl (fun K hK=> ?_) AllReadyH.nil
    go_simp
    refine hK.out _ _ ?_ (fun hHeld=> ?_)
    ·exact HEND.out.1.s.cell
    clear hK K
    try simp only[Act.put,List.setIfInBounds_toArray,List.set_cons_zero,List.set_cons_succ]
    refine wpAnyH_done (by kernel_rfl) ?_ _
    gi_wp2
    exact⟨HEND.out.2.2.1.from _,HEND.out.2.1,⟨_,_,HEND.out.1⟩,hBw.trans HEND.out.2.2.2⟩
   ·go_simp
    refine hK.out _ _ ?_ (fun hHeld=> ?_)
    ·exact d3
    clear hK K
    try simp only[Act.put,List.setIfInBounds_toArray,List.set_cons_zero,List.set_cons_succ]
    refine wpAnyH_ready (rs:=[0,5]) (by kernel_rfl) (by simp) ?_
    refine AllReadyH.cons rfl (fun K hK=> ?_) (AllReadyH.cons rfl (fun K hK=> ?_) AllReadyH.nil)
    ·go_simp
     refine hK.out _ _ ?_ (fun hHeld=> ?_)
     ·exact d3
     clear hK K
     try simp only[Act.put,List.setIfInBounds_toArray,List.set_cons_zero,List.set_cons_succ]
     refine wpAnyH_ready (rs:=[5]) (by kernel_rfl) (by simp) ?_
     refine AllReadyH.cons rfl (fun K hK=> ?_) AllReadyH.nil
     go_simp
     refine hK.out _ _ ?_ (fun hHeld=> ?_)
     ·exact(by rw[World.cell?_alloc_lt _ _ _ (World.block_lt_of_cell? _ _ d3)];exact d3)
     clear hK K
     try simp only[Act.put,List.setIfInBounds_toArray,List.set_cons_zero,List.set_cons_succ]
     refine wpAnyH_ready (rs:=[6]) (by kernel_rfl) (by simp) ?_
     refine AllReadyH.cons rfl (fun K hK=> ?_) AllReadyH.nil
     (rw[if_pos (by rfl)];refine Zfm rfl rfl rfl hrun ?_;simp only[Act.put,List.setIfInBounds_toArray,List.set_cons_zero,List.set_cons_succ])
     refine hK.out _ _ ?_ (fun hHeld=> ?_)
     ·exact hs2
     clear hK K
     try simp only[Act.put,List.setIfInBounds_toArray,List.set_cons_zero,List.set_cons_succ]
     refine wpAnyH_ready (rs:=[7]) (by kernel_rfl) (by simp) ?_
     refine AllReadyH.cons rfl (fun K hK=> ?_) AllReadyH.nil
     go_simp
     refine hK.out _ _ ?_ (fun hHeld=> ?_)
     ·exact HEND.out.1.s.cell
     clear hK K
     try simp only[Act.put,List.setIfInBounds_toArray,List.set_cons_zero,List.set_cons_succ]
     refine wpAnyH_done (by kernel_rfl) ?_ _
     gi_wp2
     exact⟨HEND.out.2.2.1.from _,HEND.out.2.1,⟨_,_,HEND.out.1⟩,hBw.trans HEND.out.2.2.2⟩
    ·go_simp
     refine hK.out _ _ ?_ (fun hHeld=> ?_)
     ·exact(by rw[World.cell?_alloc_lt _ _ _ (World.block_lt_of_cell? _ _ d3)];exact d3)
     clear hK K
     try simp only[Act.put,List.setIfInBounds_toArray,List.set_cons_zero,List.set_cons_succ]
     have d7a:(w1.alloc (.cells #[.int .i64 2,.int .i64 0,.int .i64 st,.slice A' (pcB block x.1).length c'] 134)).cell? ⟨w.heap.size+1,0,none⟩=some v:=by rw[World.cell?_alloc_lt _ _ _ (World.block_lt_of_cell? _ _ d7)];exact d7
     refine wpAnyH_ready (rs:=[0]) (by kernel_rfl) (by simp) ?_
     refine AllReadyH.cons rfl (fun K hK=> ?_) AllReadyH.nil
     go_simp
     refine hK.out _ _ ?_ (fun hHeld=> ?_)
     ·exact hHeld
     clear hK K
     try simp only[Act.put,List.setIfInBounds_toArray,List.set_cons_zero,List.set_cons_succ]
     refine wpAnyH_ready (rs:=[6]) (by kernel_rfl) (by simp) ?_
     refine AllReadyH.cons rfl (fun K hK=> ?_) AllReadyH.nil
     (rw[if_pos (by rfl)];refine Zfm rfl rfl rfl hrun ?_;simp only[Act.put,List.setIfInBounds_toArray,List.set_cons_zero,List.set_cons_succ])
     refine hK.out _ _ ?_ (fun hHeld=> ?_)
     ·exact hs2
     clear hK K
     try simp only[Act.put,List.setIfInBounds_toArray,List.set_cons_zero,List.set_cons_succ]
     refine wpAnyH_ready (rs:=[7]) (by kernel_rfl) (by simp) ?_
     refine AllReadyH.cons rfl (fun K hK=> ?_) AllReadyH.nil
     go_simp
     refine hK.out _ _ ?_ (fun hHeld=> ?_)
     ·exact HEND.out.1.s.cell
     clear hK K
     try simp only[Act.put,List.setIfInBounds_toArray,List.set_cons_zero,List.set_cons_succ]
     refine wpAnyH_done (by kernel_rfl) ?_ _
     gi_wp2
     exact⟨HEND.out.2.2.1.from _,HEND.out.2.1,⟨_,_,HEND.out.1⟩,hBw.trans HEND.out.2.2.2⟩
 case done=>as_aux_lemma=>
  rintro D ys W hD hys ⟨⟨v,Vs,hS⟩,hBw⟩ hK
  have hyl:ys.length=Zaq block.length:=by
   have:=congrArg List.length hys
   simpa using this
  have c7:=hS.box.cell
  have f7:=hS.box.frozen
  have c3:=hS.s.cell
  have hl7:=hS.box.lt
  have hrow:=hS.row
  rw[hyl]at hrow
  have b4:bits .or .i64 0 4=4:=by kernel_rfl
  have b5:bits .or .i64 1 4=5:=by kernel_rfl
  rcases Nat.eq_zero_or_pos (Zaq block.length)with h0 | h0
  ·have hv:∃A2 c2,v=.slice A2 0 c2:=by
    rw[h0]at hrow
    rcases hrow.2 with⟨rfl,_⟩ | ⟨g,cap,cur,rfl,_⟩
    ·exact⟨_,_,rfl⟩
    ·exact⟨_,_,rfl⟩
   obtain⟨A2,c2,rfl⟩:=hv
   have HH:=Hd (And.intro hys (And.intro hyl (And.intro hrow hS)))
   have HB:=Hd hBw
   have HK:=Hd hK
   clear hys hyl hrow hS hBw hK hat hB0 hA hr hW0
   cases fin
   ·as_aux_lemma=>
    gi_wp2
    have HX:((W.setCell ⟨w.heap.size+1,0,none⟩ (.slice (some ⟨W.heap.size,0,none⟩) 1 1)).alloc (.cells #[.int .i64 1,.int .i64 4,.int .i64 st,.slice none 0 0] 134)).heap[D]? =some (.deferred (some [])):=
     ((KeepsOthers.setCell _ _ _).trans (KeepsOthers.alloc _ _)).same D _ HK.out rfl
    refine⟨by simp,.inl ⟨_,_,rfl,run_takeDeferred HX,?_⟩⟩
    refine⟨_,results_tmp rfl _ _ _,_,_,_,rfl,Ze6 (by rw[h0];rfl) ((HB.out.setCell (p:=⟨w.heap.size+1,0,none⟩) (Nat.le_succ _) _).alloc (by simp;omega) _) (by omega) HX (by simp) (Zus _ _ HB.out.size st block h0 false ?_)⟩
    have:=Blk.new (W.setCell ⟨w.heap.size+1,0,none⟩ (.slice (some ⟨W.heap.size,0,none⟩) 1 1)) 134 #[.int .i64 1,.int .i64 4,.int .i64 st,.slice none 0 0]
    rw[World.size_setCell]at this
    exact this
   ·as_aux_lemma=>
    gi_wp2
    have HX:((W.setCell ⟨w.heap.size+1,0,none⟩ (.slice (some ⟨W.heap.size,0,none⟩) 1 1)).alloc (.cells #[.int .i64 1,.int .i64 5,.int .i64 st,.slice none 0 0] 134)).heap[D]? =some (.deferred (some [])):=
     ((KeepsOthers.setCell _ _ _).trans (KeepsOthers.alloc _ _)).same D _ HK.out rfl
    refine⟨by simp,.inl ⟨_,_,rfl,run_takeDeferred HX,?_⟩⟩
    refine⟨_,results_tmp rfl _ _ _,_,_,_,rfl,Ze6 (by rw[h0];rfl) ((HB.out.setCell (p:=⟨w.heap.size+1,0,none⟩) (Nat.le_succ _) _).alloc (by simp;omega) _) (by omega) HX (by simp) (Zus _ _ HB.out.size st block h0 true ?_)⟩
    have:=Blk.new (W.setCell ⟨w.heap.size+1,0,none⟩ (.slice (some ⟨W.heap.size,0,none⟩) 1 1)) 134 #[.int .i64 1,.int .i64 5,.int .i64 st,.slice none 0 0]
    rw[World.size_setCell]at this
    exact this
  ·obtain⟨k,hk⟩:∃k,Zaq block.length=k+1:=⟨Zaq block.length-1,by omega⟩
   rw[hk]at hrow
   obtain⟨g,cap,rfl⟩:=ownsRow_succ hrow
   have hend:=Zwb hS hys hk fin
   have HEND:=Hd hend
   obtain⟨-,hgl,z0,z1,zk,fz,hne,-⟩:=hend
   have fz0:=fz 0
   have fz1:=fz 1
   have fzk:=fz (k*4+1)
   obtain⟨i0,i1,i2,hwk⟩:=k_wrap hk (Zpu hm)
   have HH:=Hd (And.intro hys (And.intro hyl (And.intro hrow hS)))
   have HB:=Hd hBw
   have HK:=Hd hK
   clear hys hyl hrow hS hBw hK hat hB0 hA hr hW0
   rcases Nat.eq_zero_or_pos k with hk0 | hk0
   ·subst hk0
    cases fin
    ·as_aux_lemma=>
     gi_wp2
     have hX:Zcc W g 0 false=(W.setCell ⟨g,0,none⟩ (.int .i64 1)).setCell ⟨g,1,none⟩ (.int .i64 4):=by
      simp[Zcc]
     have HX:(Zcc W g 0 false).heap[D]? =some (.deferred (some [])):=((Zby W g 0 false).block D (Array.getElem?_eq_some_iff.1 HK.out).1 (by rintro⟨⟩;have h1:=HEND.out.2.2.2.2.2.2.2.2;obtain⟨cur,hc⟩:=h1;have:=HK.out.symm.trans hc;cases this)).trans HK.out
     rw[<-hX]
     refine⟨by simp,.inl ⟨_,_,rfl,run_takeDeferred HX,?_⟩⟩
     exact⟨_,results_tmp rfl _ _ _,_,_,_,rfl,Ze6 (by rw[hk];omega) (HB.out.grown (Zby W g 0 false) HB.out.size (fun j e=>by cases e;exact HEND.out.2.2.2.2.2.2.2.1)) (by omega) HX (by rw[Zft];exact hgl) HEND.out.1⟩
    ·as_aux_lemma=>
     gi_wp2
     have hX:Zcc W g 0 true=((W.setCell ⟨g,0,none⟩ (.int .i64 1)).setCell ⟨g,1,none⟩ (.int .i64 1)).setCell ⟨g,1,none⟩ (.int .i64 5):=by
      simp[Zcc]
     have HX:(Zcc W g 0 true).heap[D]? =some (.deferred (some [])):=((Zby W g 0 true).block D (Array.getElem?_eq_some_iff.1 HK.out).1 (by rintro⟨⟩;have h1:=HEND.out.2.2.2.2.2.2.2.2;obtain⟨cur,hc⟩:=h1;have:=HK.out.symm.trans hc;cases this)).trans HK.out
     rw[<-hX]
     refine⟨by simp,.inl ⟨_,_,rfl,run_takeDeferred HX,?_⟩⟩
     exact⟨_,results_tmp rfl _ _ _,_,_,_,rfl,Ze6 (by rw[hk];omega) (HB.out.grown (Zby W g 0 true) HB.out.size (fun j e=>by cases e;exact HEND.out.2.2.2.2.2.2.2.1)) (by omega) HX (by rw[Zft];exact hgl) HEND.out.1⟩
   ·obtain⟨hk1,hk2⟩:=k_pos hk0
    obtain⟨n,z,hn,hz0,hzn,hzt,hwn,hn0,hn1⟩:=k_wrap2 hk (Zpu hm)
    rw[<-hn]at HEND c7
    have HKN:=Hd (And.intro hk (And.intro hn (And.intro hk1 hk2)))
    clear i0 i1 i2 hwk hk hn hk1 hk2 hk0 h0 HH fz
    cases fin
    ·as_aux_lemma=>
     gi_upto_region 10 with fail
     have d7:(W.setCell ⟨g,0,none⟩ (.int .i64 1)).cell? ⟨w.heap.size+1,0,none⟩=some (.slice (some ⟨g,0,none⟩) n cap):=(World.cell?_setCell_other _ _ _ _ (fun e=>hne (by first | exact congrArg Addr.block e | exact(congrArg Addr.block e).symm))).trans c7
     have hsw:(W.setCell ⟨g,0,none⟩ (.int .i64 1)).cell? ⟨g,k*4+1,none⟩=some (.int .i64 0):=(Zbc _ _ _ (Nat.succ_ne_zero _).symm).trans zk
     have fsw:(W.setCell ⟨g,0,none⟩ (.int .i64 1)).frozen? ⟨g,k*4+1,none⟩=false:=by rw[World.frozen?_setCell];exact fzk
     have hsz4:(W.setCell ⟨g,0,none⟩ (.int .i64 1)).heap.size=W.heap.size:=by simp
     obtain⟨W4,hW4⟩:=exl ((W.setCell ⟨g,0,none⟩ (.int .i64 1)))
     rw[hW4]at d7 hsw fsw hsz4⊢
     have HW4:=Hd hW4
     have HNE:=Hd hne
     have HGL:=Hd hgl
     have HHD:=Hd hD
     have HHS:=Hd hsz
     have HS4:=Hd hsz4
     clear hW4 c7 f7 c3 z0 z1 zk fz0 fz1 fzk hl7 hgl hm hcap hD hsz hne b5 hsz4
     gi_upto_region 11 with fail
     have d8:(W4.setCell ⟨g,k*4+1,none⟩ (.int .i64 4)).cell? ⟨w.heap.size+1,0,none⟩=some (.slice (some ⟨g,0,none⟩) n cap):=(World.cell?_setCell_other _ _ _ _ (fun e=>HNE.out (by first | exact congrArg Addr.block e | exact(congrArg Addr.block e).symm))).trans d7
     obtain⟨W5,hW5⟩:=exl (W4.setCell ⟨g,k*4+1,none⟩ (.int .i64 4))
     rw[hW5]at d8⊢
     have HW5:=Hd hW5
     clear hW5 d7 hsw fsw b4 hz0 hzn hzt hwn hn0 hn1
     gi_wp2
     have hX:Zcc W g k false=W5:=by
      rw[<-HW5.out,<-HW4.out]
      simp[Zcc,HKN.out.2.2.1,Nat.mul_comm]
     have HX:(Zcc W g k false).heap[D]? =some (.deferred (some [])):=((Zby W g k false).block D (Array.getElem?_eq_some_iff.1 HK.out).1 (by rintro⟨⟩;have h1:=HEND.out.2.2.2.2.2.2.2.2;obtain⟨cur,hc⟩:=h1;have:=HK.out.symm.trans hc;cases this)).trans HK.out
     rw[<-hX]
     refine⟨by simp,.inl ⟨_,_,rfl,run_takeDeferred HX,?_⟩⟩
     exact⟨_,results_tmp rfl _ _ _,_,_,_,rfl,Ze6 (n_max HKN.out.1 HKN.out.2.1) (HB.out.grown (Zby W g k false) HB.out.size (fun j e=>by cases e;exact HEND.out.2.2.2.2.2.2.2.1)) (d_le HHS.out HHD.out) HX (by rw[Zft];exact HGL.out) HEND.out.1⟩
    ·as_aux_lemma=>
     gi_upto_region 10 with fail
     have d7:((W.setCell ⟨g,0,none⟩ (.int .i64 1)).setCell ⟨g,1,none⟩ (.int .i64 1)).cell? ⟨w.heap.size+1,0,none⟩=some (.slice (some ⟨g,0,none⟩) n cap):=((World.cell?_setCell_other _ _ _ _ (fun e=>hne (by first | exact congrArg Addr.block e | exact(congrArg Addr.block e).symm))).trans (World.cell?_setCell_other _ _ _ _ (fun e=>hne (by first | exact congrArg Addr.block e | exact(congrArg Addr.block e).symm)))).trans c7
     have hsw:((W.setCell ⟨g,0,none⟩ (.int .i64 1)).setCell ⟨g,1,none⟩ (.int .i64 1)).cell? ⟨g,k*4+1,none⟩=some (.int .i64 0):=((Zbc _ _ _ HKN.out.2.2.2.symm).trans (Zbc _ _ _ (Nat.succ_ne_zero _).symm)).trans zk
     have fsw:((W.setCell ⟨g,0,none⟩ (.int .i64 1)).setCell ⟨g,1,none⟩ (.int .i64 1)).frozen? ⟨g,k*4+1,none⟩=false:=by rw[World.frozen?_setCell,World.frozen?_setCell];exact fzk
     have hsz4:((W.setCell ⟨g,0,none⟩ (.int .i64 1)).setCell ⟨g,1,none⟩ (.int .i64 1)).heap.size=W.heap.size:=by simp
     obtain⟨W4,hW4⟩:=exl (((W.setCell ⟨g,0,none⟩ (.int .i64 1)).setCell ⟨g,1,none⟩ (.int .i64 1)))
     rw[hW4]at d7 hsw fsw hsz4⊢
     have HW4:=Hd hW4
     have HNE:=Hd hne
     have HGL:=Hd hgl
     have HHD:=Hd hD
     have HHS:=Hd hsz
     have HS4:=Hd hsz4
     clear hW4 c7 f7 c3 z0 z1 zk fz0 fz1 fzk hl7 hgl hm hcap hD hsz hne b5 hsz4
     gi_upto_region 11 with fail
     have d8:(W4.setCell ⟨g,k*4+1,none⟩ (.int .i64 4)).cell? ⟨w.heap.size+1,0,none⟩=some (.slice (some ⟨g,0,none⟩) n cap):=(World.cell?_setCell_other _ _ _ _ (fun e=>HNE.out (by first | exact congrArg Addr.block e | exact(congrArg Addr.block e).symm))).trans d7
     obtain⟨W5,hW5⟩:=exl (W4.setCell ⟨g,k*4+1,none⟩ (.int .i64 4))
     rw[hW5]at d8⊢
     have HW5:=Hd hW5
     clear hW5 d7 hsw fsw b4 hz0 hzn hzt hwn hn0 hn1
     gi_wp2
     have hX:Zcc W g k true=W5:=by
      rw[<-HW5.out,<-HW4.out]
      simp[Zcc,HKN.out.2.2.1,Nat.mul_comm]
     have HX:(Zcc W g k true).heap[D]? =some (.deferred (some [])):=((Zby W g k true).block D (Array.getElem?_eq_some_iff.1 HK.out).1 (by rintro⟨⟩;have h1:=HEND.out.2.2.2.2.2.2.2.2;obtain⟨cur,hc⟩:=h1;have:=HK.out.symm.trans hc;cases this)).trans HK.out
     rw[<-hX]
     refine⟨by simp,.inl ⟨_,_,rfl,run_takeDeferred HX,?_⟩⟩
     exact⟨_,results_tmp rfl _ _ _,_,_,_,rfl,Ze6 (n_max HKN.out.1 HKN.out.2.1) (HB.out.grown (Zby W g k true) HB.out.size (fun j e=>by cases e;exact HEND.out.2.2.2.2.2.2.2.1)) (d_le HHS.out HHD.out) HX (by rw[Zft];exact HGL.out) HEND.out.1⟩
 case stop=>
  rintro D c pre W hD _ h _
  exact h.elim
end
section
open Go.RowKit Go.Shelf
theorem Zko (st:Int)(block:List UInt8)(A:Option Addr)(len c:Nat)(hlen:len=block.length)(h0:0 < block.length)(hm:block.length<=1024)(hcap:block.length<=c)(fin:Bool)(w:World)(hr:Zab w w.heap.size 1 A block.length (bs block)):
  CA 57 #[.int .i64 st,.slice A len c,.bool fin] w fun e w'=>∃g c' A' ac,e=.returned (.slice (some ⟨g,0,none⟩) 1 c')/\Below w.heap.size w w'/\
   (w'.cell? ⟨g,0,none⟩=some (.int .i64 1)/\w'.cell? ⟨g,1,none⟩=some (.int .i64 ((if fin then 1 else 0)+4))/\w'.cell? ⟨g,2,none⟩=some (.int .i64 st)/\w'.cell? ⟨g,3,none⟩=some (.slice A' block.length ac))/\Zab w' w'.heap.size 1 A' block.length (bs block):=by
 refine(Zph st block A len c hlen (by omega) hcap fin w hr).mono ?_
 rintro e w' ⟨A',m,c',rfl,hm',hb,g,rfl,hg,hs⟩
 have hm1:m=1:=by rw[hm'];unfold Zaq;omega
 subst hm1
 obtain⟨A2,c2,q0,q1,q2,q3,q4,-⟩:=hs 0 (by decide)
 have e0:pcB block 0=block:=by
  unfold pcB
  simp[List.take_of_length_le hm]
 rw[e0]at q3 q4
 exact⟨g,c',A2,c2,rfl,hb,⟨q0,by simpa using q1,q2,q3⟩,q4⟩
theorem Zyk {w:World}{C g h:Nat}{A:Option Addr}{c:Nat}{xs:List Fld}{F:List Zae}(H:Sep w (Zaa C 93 (Zai g h)::Zbw g A c xs 4096::F))(l:List Fld)(hf:∀f∈l,fOk f)(hm:l.length<=140737488355328)(hE:Ze7 l=0)
  (LA:Option Addr) (n lc i:Nat) (hn:n=l.length) (hi:F[i]? =some (Zad 41 2 (.slice LA n lc) n (fvs l))):
  CA 10 #[.pointer (some ⟨C,0,none⟩),.slice LA n lc] w fun e w'=>∃A' n' c',e=.returned (.tuple #[.slice A' n' c',.nilIface])/\n'=(Za0 4096 xs l).length/\∃A3 c3,Sep w' (Zad 5 1 (.slice A' n' c') n' (bs (Za0 4096 xs l))::Zaa C 93 (Zai g h)::Zbw g A3 c3 (Zcs 4096 xs l) 4096::F):=by
 have hO:Znd w C g A c (.slice none 0 0) xs 4096 [] (.pointer (some ⟨h,0,none⟩),.int .i64 4096,.bool false):=⟨H.get (i:=0) rfl,H.get (i:=1) rfl,World.ownsRow_nil _ _ _ _⟩
 subst hn
 refine(Zq2 hO (by simp) (fun _=>rfl) (by simp) l hf hm hE LA _ lc rfl (Zab.of_own (H.row (i:=i+2) hi)) ?_).mono ?_
 ·intro ad e _ ho
  have h1:(Zad 41 2 (.slice LA l.length lc) l.length (fvs l)).own ad.block:=by rw[e];rfl
  rcases ho with h2 | h2 | h2
  ·exact H.ne (i:=i+2) (j:=0) (by omega) hi rfl h1 h2
  ·exact H.ne (i:=i+2) (j:=1) (by omega) hi rfl h1 h2
  ·cases h2
 ·rintro e w' ⟨A',n',c',rfl,rfl,hc,hrd,hfr,A3,c3,h1,h2,h3,h4,h5⟩
  have e0:Zdq []++Za0 4096 xs l=Za0 4096 xs l:=rfl
  rw[e0]at*
  refine⟨A',_,c',rfl,rfl,A3,c3,?_⟩
  have hnC:¬Zhs g A3 C:=h1.ne.1
  have hT:Sep w' [Zad 5 1 (.slice A' (Za0 4096 xs l).length c') (Za0 4096 xs l).length (bs (Za0 4096 xs l)),Zaa C 93 (Zai g h),Zbw g A3 c3 (Zcs 4096 xs l) 4096]:=by
   refine((Sep.nil_.cons_ (a:=Zbw g A3 c3 (Zcs 4096 xs l) 4096) h1.tab (fun k hk=>h1.lt k (.inr (.inl hk))) (fun _ h=>by cases h)).cons_ (a:=Zaa C _ _) h1.blk (fun k hk=>h1.lt k (.inl hk)) ?_).cons_ h5 (fun k hk=>(h5.lt k hk).2) ?_
   ·intro b hb k hk hk2
    simp only[List.mem_singleton]at hb
    subst hb
    have hk:k=C:=hk
    subst hk
    exact hnC hk2
   ·intro b hb k hk hk2
    simp only[List.mem_cons,List.not_mem_nil,or_false]at hb
    cases hA:A' with
    | none=>rw[hA]at hk;cases hk
    | some ad=>
     rw[hA]at hk
     have hk:some ad.block=some k:=hk
     injection hk with hk
     rcases hb with rfl | rfl
     ·exact h4 ad hA (.inl (by rw[hk];exact hk2))
     ·exact h4 ad hA (.inr (.inl (by rw[hk];exact hk2)))
  refine Sep.swap (M:=[_,_]) (N:=[_,_,_]) H h2 ?_ hT ?_
  ·rintro k (h6 | h6 | h6)
   ·exact⟨Zaa C 93 (Zai g h),by simp,h6⟩
   ·exact⟨Zbw g A c xs 4096,by simp,h6⟩
   ·cases h6
  ·intro b hb k hk
   simp only[List.mem_cons,List.not_mem_nil,or_false]at hb
   rcases hb with rfl | rfl | rfl
   ·right
    cases hA:A' with
    | none=>rw[hA]at hk;cases hk
    | some ad=>
     rw[hA]at hk
     have hk:some ad.block=some k:=hk
     injection hk with hk
     have:=(hfr ad hA).1
     omega
   ·exact .inl ⟨_,by simp,hk⟩
   ·rcases h3 k (.inr (.inl hk))with(h6 | h6 | h6) | h6
    ·exact .inl ⟨Zaa C 93 (Zai g h),by simp,h6⟩
    ·exact .inl ⟨Zbw g A c xs 4096,by simp,h6⟩
    ·cases h6
    ·exact .inr h6
theorem sep_dec {w:World}{C g h:Nat}{A:Option Addr}{c:Nat}{ys:List Fld}{F:List Zae}(H:Sep w (Zaa C 93 (Zai g h)::Zbw h A c ys 4096::F))(b:List UInt8)(LA:Option Addr)(n lc i:Nat)(hn:n=b.length)(h0:0 < n)(hm:n<=140737488355328)
  (hi:F[i]? =some (Zad 5 1 (.slice LA n lc) n (bs b))) (ys':List Fld) (L:List Fld) (hH:heard 4096 ys 4096 [] b=⟨0,ys',4096,L,0⟩):
  CA 11 #[.pointer (some ⟨C,0,none⟩),.slice LA n lc] w fun e w'=>∃A2 n2 c2,e=.returned (.tuple #[.slice A2 n2 c2,.nilIface])/\n2=L.length/\∃A3 c3,Sep w' (Zad 41 2 (.slice A2 n2 c2) n2 (fvs L)::Zaa C 93 (Zai g h)::Zbw h A3 c3 ys' 4096::F):=by
 have hI:CIn w C h A c ys 4096 4096 false (.pointer (some ⟨g,0,none⟩),.slice none 0 0):=⟨H.get (i:=0) rfl,H.get (i:=1) rfl⟩
 subst hn
 have hcap:b.length<=lc:=by
  obtain⟨_,⟨_,h1⟩ | ⟨_,_,_,h1,_,_,h2,_⟩⟩:=H.row (i:=i+2) hi
  ·omega
  ·cases h1;exact h2
 have hB:∃B,B < w.heap.size/\¬Zmb C h A B/\∀ad,LA=some ad->ad.block=B:=by
  cases hA:LA with
  | none=>
   obtain⟨_,⟨_,h1⟩ | ⟨_,_,_,h1,_⟩⟩:=H.row (i:=i+2) hi
   ·omega
   ·rw[hA]at h1;cases h1
  | some ad=>
   have h1:(Zad 5 1 (.slice LA b.length lc) b.length (bs b)).own ad.block:=by rw[hA];rfl
   refine⟨ad.block,H.lt (i:=i+2) hi h1,?_,fun a e=>by cases e;rfl⟩
   rintro(h2 | h2)
   ·exact H.ne (i:=i+2) (j:=0) (by omega) hi rfl h1 h2
   ·exact H.ne (i:=i+2) (j:=1) (by omega) hi rfl h1 h2
 obtain⟨B,hB1,hB2,hB3⟩:=hB
 refine(Zm8 hI (Nat.le_refl _) b LA _ lc rfl hcap hm B hB1 hB2 (Zab.of_own (H.row (i:=i+2) hi)) hB3 ys' 4096 L hH).mono ?_
 rintro e w' ⟨A2,n2,c2,rfl,rfl,hown,A',c',h1,h2,h3,h4⟩
 refine⟨A2,_,c2,rfl,rfl,A',c',?_⟩
 have hT:Sep w' [Zad 41 2 (.slice A2 L.length c2) L.length (fvs L),Zaa C 93 (Zai g h),Zbw h A' c' ys' 4096]:=by
  refine((Sep.nil_.cons_ (a:=Zbw h A' c' ys' 4096) h1.tab (fun k hk=>h1.lt k (.inr hk)) (fun _ h=>by cases h)).cons_ (a:=Zaa C _ _) h1.blk (fun k hk=>h1.lt k (.inl hk)) ?_).cons_ (a:=Zad _ _ _ _ _) (Zdk hown (Nat.zero_le _)) (fun k hk=>(hown.lt k hk).2) ?_
  ·intro b hb k hk hk2
   simp only[List.mem_singleton]at hb
   subst hb
   have hk:k=C:=hk
   subst hk
   rcases hk2 with rfl | ⟨a,ha,he⟩
   ·exact Blk.ne_ h1.blk h1.tab.blk (by decide) rfl
   ·have:=Zao h1.tab.own h1.blk (by decide)
    rw[ha]at this
    exact this (by simp[Value.ownBlock,he])
  ·intro b hb k hk hk2
   simp only[List.mem_cons,List.not_mem_nil,or_false]at hb
   rcases hb with rfl | rfl
   ·exact h4 k hk (.inl hk2)
   ·exact h4 k hk (.inr hk2)
 refine Sep.swap (M:=[_,_]) (N:=[_,_,_]) H h2 ?_ hT ?_
 ·rintro k (h6 | h6)
  ·exact⟨Zaa C 93 (Zai g h),by simp,h6⟩
  ·exact⟨Zbw h A c ys 4096,by simp,h6⟩
 ·intro b hb k hk
  simp only[List.mem_cons,List.not_mem_nil,or_false]at hb
  rcases hb with rfl | rfl | rfl
  ·exact .inr (hown.lt k hk).1
  ·exact .inl ⟨_,by simp,hk⟩
  ·rcases h3 k (.inr hk)with(h6 | h6) | h6
   ·exact .inl ⟨Zaa C 93 (Zai g h),by simp,h6⟩
   ·exact .inl ⟨Zbw h A c ys 4096,by simp,h6⟩
   ·exact .inr h6
def Zih (w:World)(g:Nat):World:=match w.shape? g with | some (_,n)=>w.freeze ⟨g,n,none⟩ 1 | none=>w
theorem Zlj (g n c:Nat)(w:World):(convert 23 23 (.slice (some ⟨g,0,none⟩) n c)).run prog w=.ok (.slice (some ⟨g,0,none⟩) n c) (Zih w g):=by
 have h1:=run_underlying (w:=w) underlying23
 have h2:=run_underlying (w:=w) underlying5
 unfold Zih
 cases h:w.shape? g with
 | none=>simp[convert,h1,h2,markStringish,h]
 | some p=>
  obtain⟨t,k⟩:=p
  simp[convert,h1,h2,markStringish,h]
theorem Zgw (w:World)(g:Nat):(Zih w g).heap.size=w.heap.size:=by
 unfold Zih
 split
 ·unfold World.freeze
  rw[if_neg (by decide)]
  simp
 ·rfl
theorem Zmy (w:World)(g k:Nat)(h:k≠g):(Zih w g).heap[k]? =w.heap[k]? :=by
 unfold Zih
 split
 ·unfold World.freeze
  rw[if_neg (by decide)]
  show(w.heap.modify g _)[k]? =_
  rw[Array.getElem?_modify,if_neg (Ne.symm h)]
 ·rfl
theorem Zwc (w:World)(g:Nat)(a:Addr):(Zih w g).cell? a=w.cell? a:=by
 by_cases e:a.block=g
 ·unfold Zih
  split
  ·unfold World.freeze
   rw[if_neg (by decide)]
   unfold World.cell?
   show(match (w.heap.modify g _)[a.block]? with | some (.cells c _ _)=>_ | _=>_)=_
   rw[Array.getElem?_modify,if_pos e.symm]
   cases h:w.heap[a.block]? with
   | none=>rfl
   | some o=>cases o <;> rfl
  ·rfl
 ·exact World.cell?_of_block (w:=w) (Zmy w g a.block e)
theorem Below.mark {B:Nat}{a w:World}(h:Below B a w){g:Nat}(hg:B<=g):Below B a (Zih w g):=by
 refine h.trans ⟨?_,?_,?_,Nat.le_of_eq (Zgw w g).symm,fun k hk=>Zmy w g k (by omega)⟩
 all_goals
  unfold Zih
  split
  ·unfold World.freeze
   rw[if_neg (by decide)]
  ·rfl
def Kc (W W':World):Prop:=W.heap.size<=W'.heap.size/\∀p:Addr,p.block < W.heap.size->W'.cell? p=W.cell? p
theorem Kc.refl (W:World):Kc W W:=⟨Nat.le_refl _,fun _ _=>rfl⟩
theorem Kc.alloc {A W:World}(h:Kc A W)(o:Obj):Kc A (W.alloc o):=⟨by rw[World.size_alloc];exact Nat.le_succ_of_le h.1,fun p hp=>(World.cell?_alloc_lt W o p (Nat.lt_of_lt_of_le hp h.1)).trans (h.2 p hp)⟩
theorem Kc.mark {A W:World}(h:Kc A W)(g:Nat):Kc A (Zih W g):=⟨by rw[Zgw];exact h.1,fun p hp=>(Zwc W g p).trans (h.2 p hp)⟩
theorem Kc.drew {A W:World}(h:Kc A W):Kc A W.drew:=h
theorem Kc.below {A W W':World}(h:Kc A W)(hb:Below W.heap.size W W'):Kc A W':=⟨Nat.le_trans h.1 hb.size,fun p hp=>(hb.cell (Nat.lt_of_lt_of_le hp h.1)).trans (h.2 p hp)⟩
theorem Kc.reads {A W:World}(h:Kc A W){size n:Nat}{ad:Option Addr}{xs:List Value}(hr:Zab A A.heap.size size ad n xs):Zab W W.heap.size size ad n xs:=(hr.keep h.2).more h.1
def Lit (W:World)(x:Nat):Prop:=Zab W W.heap.size 1 (some ⟨x,0,none⟩) 2 (bs [13,10])
theorem Lit.kept {A W:World}{x:Nat}(h:Lit A x)(k:Kc A W):Lit W x:=k.reads h
theorem Zzo {W:World}{x:Nat}(e:x=W.heap.size):Lit (W.alloc (.cells #[.int .u8 13,.int .u8 10] 5)) x:=by
 subst e
 exact(Blk.new W 5 #[.int .u8 13,.int .u8 10]).reads_ rfl
theorem Lit.mark {W:World}{x:Nat}(h:Lit W x)(g:Nat):Lit (Zih W g) x:=h.kept ((Kc.refl W).mark g)
theorem Zlk :∀(l:List Bool) (i:Nat),l[i]? =some false->(l.set i true).countP (fun b=> !b)+1=l.countP (fun b=> !b)
 | [],i,h=>by simp at h
 | b::l,0,h=>by
  simp at h
  subst h
  simp
 | b::l,i+1,h=>by
  have h1:=Zlk l i (by simpa using h)
  cases b
  ·simp at h1⊢
   omega
  ·simp at h1⊢
   omega
theorem Zrm {F:Fence}{n:Nat}{P:Program}{ops:Array Oper}{Q:Exit->Act->World->Prop}{md:Region.Mode}(Inv:Array Bool->Act->World->Prop)
  (hend:∀listed a w,Inv listed a w->Region.ready md ops listed=[]->Q .normal a w)
  (hstep:∀listed a w i,Inv listed a w->i∈Region.ready md ops listed->wpOpIn F n P ops Q i (Inv (listed.setIfInBounds i true)) a w):
  ∀(fuel:Nat) (listed:Array Bool) (a:Act) (w:World),listed.toList.countP (fun b=> !b)<=fuel->Inv listed a w->wpAnyIn F n P md ops Q fuel listed a w:=by
 intro fuel
 induction fuel with
 | zero=>
  intro listed a w hc hI
  have hr:Region.ready md ops listed=[]:=by
   cases hr:Region.ready md ops listed with
   | nil=>rfl
   | cons j r=>
    exfalso
    have hj:j∈Region.ready md ops listed:=by rw[hr];simp
    have h1:=(mem_ready.1 hj).1
    have h2:listed.toList[j]? =some false:=by
     rw[Array.getElem?_toList]
     rw[Array.getD_eq_getD_getElem?]at h1
     cases h3:listed[j]? with
     | none=>rw[h3]at h1;cases h1
     | some b=>rw[h3]at h1;simpa using h1
    have:=Zlk listed.toList j h2
    omega
  exact⟨hr,hend listed a w hI hr⟩
 | succ fuel ih=>
  intro listed a w hc hI
  refine⟨fun hr=>hend listed a w hI hr,fun i hi=>wpOpIn_mono (fun a' w' hI'=>ih _ a' w' ?_ hI') (hstep listed a w i hI hi)⟩
  have h1:=(mem_ready.1 hi).1
  have h2:listed.toList[i]? =some false:=by
   rw[Array.getElem?_toList]
   rw[Array.getD_eq_getD_getElem?]at h1
   cases h3:listed[i]? with
   | none=>rw[h3]at h1;cases h1
   | some b=>rw[h3]at h1;simpa using h1
  have:=Zlk listed.toList i h2
  rw[Array.toList_setIfInBounds]
  omega
theorem Zvv {F:Fence}{n:Nat}{P:Program}{id:Nat}{ops:Array Oper}{Q:Exit->Act->World->Prop}{a:Act}{w:World}(hm:P.follows .mixedOrders=true)(Fin:Act->World->Prop)(Inv:Array Bool->Act->World->Prop)
  (hfin:∀a w,Fin a w->Q .normal a w) (hi:Inv (Array.replicate ops.size false) a w.drew)
  (hend:∀listed a w,Inv listed a w->Region.ready .any ops listed=[]->Fin a w)
  (hstep:∀listed a w i,Inv listed a w->i∈Region.ready .any ops listed->wpOpIn F n P ops Q i (Inv (listed.setIfInBounds i true)) a w):
  (Code.region id ops true).wpIn F n P Q a w:=
 wpIn_region_any hm (Zrm Inv (fun l a w h hr=>hfin a w (hend l a w h hr)) hstep _ _ _ _ (by simpa using(List.countP_le_length (p:=fun b=> !b) (l:=List.replicate ops.size false))) hi)
theorem Zxl {P:Program}{ops:Array Oper}{Q:Exit->Act->World->Prop}{md:Region.Mode}(Inv:Array Bool->Act->World->Prop)
  (hend:∀listed a w,Inv listed a w->Region.ready md ops listed=[]->Q .normal a w)
  (hstep:∀listed a w i,Inv listed a w->i∈Region.ready md ops listed->wpOp P ops Q i (Inv (listed.setIfInBounds i true)) a w):
  ∀(fuel:Nat) (listed:Array Bool) (a:Act) (w:World),listed.toList.countP (fun b=> !b)<=fuel->Inv listed a w->wpAny P md ops Q fuel listed a w:=by
 intro fuel
 induction fuel with
 | zero=>
  intro listed a w hc hI
  have hr:Region.ready md ops listed=[]:=by
   cases hr:Region.ready md ops listed with
   | nil=>rfl
   | cons j r=>
    exfalso
    have hj:j∈Region.ready md ops listed:=by rw[hr];simp
    have h1:=(mem_ready.1 hj).1
    have h2:listed.toList[j]? =some false:=by
     rw[Array.getElem?_toList]
     rw[Array.getD_eq_getD_getElem?]at h1
     cases h3:listed[j]? with
     | none=>rw[h3]at h1;cases h1
     | some b=>rw[h3]at h1;simpa using h1
    have:=Zlk listed.toList j h2
    omega
  exact⟨hr,hend listed a w hI hr⟩
 | succ fuel ih=>
  intro listed a w hc hI
  refine⟨fun hr=>hend listed a w hI hr,fun i hi=>wpOp_mono (fun a' w' hI'=>ih _ a' w' ?_ hI') (hstep listed a w i hI hi)⟩
  have h1:=(mem_ready.1 hi).1
  have h2:listed.toList[i]? =some false:=by
   rw[Array.getElem?_toList]
   rw[Array.getD_eq_getD_getElem?]at h1
   cases h3:listed[i]? with
   | none=>rw[h3]at h1;cases h1
   | some b=>rw[h3]at h1;simpa using h1
  have:=Zlk listed.toList i h2
  rw[Array.toList_setIfInBounds]
  omega
theorem Zav {P:Program}{ops:Array Oper}{Q:Exit->Act->World->Prop}{i:Nat}{o:Oper}{K:Act->World->Prop}{a:Act}{w:World}(ho:ops[i]? =some o)(hw:Region.wanted o (yielded ops a.tmps)=true)
  (h:∀K':Act->World->Prop,(∀a w,K a w->K' a w)->Oper.wp P o a w K' Q):wpOp P ops Q i K a w:=by
 unfold wpOp
 rw[ho]
 show(if _ then _ else _)
 rw[if_pos hw]
 exact .inl (h K fun _ _ hh=>hh)
theorem Zkw {P:Program}{id:Nat}{ops:Array Oper}{Q:Exit->Act->World->Prop}{a:Act}{w:World}(hm:P.follows .mixedOrders=true)(Fin:Act->World->Prop)(Inv:Array Bool->Act->World->Prop)
  (hfin:∀a w,Fin a w->Q .normal a w) (hi:Inv (Array.replicate ops.size false) a w.drew)
  (hend:∀listed a w,Inv listed a w->Region.ready .any ops listed=[]->Fin a w)
  (hstep:∀listed a w i,Inv listed a w->i∈Region.ready .any ops listed->wpOp P ops Q i (Inv (listed.setIfInBounds i true)) a w):
  (Code.region id ops true).wp P Q a w:=
 wp_region_any hm (Zxl Inv (fun l a w h hr=>hfin a w (hend l a w h hr)) hstep _ _ _ _ (by simpa using(List.countP_le_length (p:=fun b=> !b) (l:=List.replicate ops.size false))) hi)
theorem Zh3 {P:Program}{o:Oper}{a:Act}{K:Act->World->Prop}{Q:Exit->Act->World->Prop}{w:World}(s x:Operand)(t u:TypeId)
  (ho:o.op=.call {callee:=.builtin .append,args:= #[s,x],argTypes:= #[t,u]}) (v0 x0:Value) (hs:a.eval s=v0) (hx:a.eval x=x0) (v':Value) (w':World)
  (hrun:(Builtin.append_ #[t,u] o.type #[v0,x0]).run P w=.ok v' w') (h:K (a.put o.dst v') w'):Oper.wp P o a w K Q:=by
 unfold Oper.wp execOp
 simp only[ho,resolve,invoke,builtin,Sem.run_bind,Sem.run_pure,Result.andThen_ok,List.map_toArray,List.map_cons,List.map_nil,hs,hx,hrun]
 exact h
structure EncSt (W w:World)(ad:Addr)(piece:Value)(b0 b1 b2 b3 b4 b5 b6 b7 b8:Bool)(x25 x26 x27 x28 x29 x30 x31 x32 x33:Value):Prop where
 bw:Below W.heap.size W w
 kc:Kc W w
 f0:b0=true->x25=.slice none 0 0
 f1:b1=true->x26=piece
 f2:b2=true->x27=.int .i64 4
 f3:b3=true->∃A c,x28=.slice A 1 c/\Zab w w.heap.size 1 A 1 (bs [52])
 f4:b4=true->∃g,x29=.slice (some ⟨g,0,none⟩) 2 2/\W.heap.size<=g/\Lit w g
 f5:b5=true->∃g,x30=.slice (some ⟨g,0,none⟩) 2 2/\W.heap.size<=g/\Lit w g
 f6:b6=true->x31=piece
 f7:b7=true->∃g,x32=.slice (some ⟨g,0,none⟩) 2 2/\W.heap.size<=g/\Lit w g
 cl:(b2=true->b1=true)/\(b3=true->b2=true)/\(b5=true->b4=true)/\(b8=true->b7=true)
 f8:b8=true->∃g,x33=.slice (some ⟨g,0,none⟩) 2 2/\W.heap.size<=g/\Lit w g
theorem EncSt.next {W w w':World}{ad:Addr}{piece:Value}{b0 b1 b2 b3 b4 b5 b6 b7 b8:Bool}{x25 x26 x27 x28 x29 x30 x31 x32 x33:Value}(h:EncSt W w ad piece b0 b1 b2 b3 b4 b5 b6 b7 b8 x25 x26 x27 x28 x29 x30 x31 x32 x33)(hb:Below W.heap.size W w')(k:Kc w w'):
  EncSt W w' ad piece b0 b1 b2 b3 b4 b5 b6 b7 b8 x25 x26 x27 x28 x29 x30 x31 x32 x33:=
 ⟨hb,⟨Nat.le_trans h.kc.1 k.1,fun p hp=>(k.2 p (Nat.lt_of_lt_of_le hp h.kc.1)).trans (h.kc.2 p hp)⟩,h.f0,h.f1,h.f2,
  fun hh=>by obtain⟨A,c,e,hr⟩:=h.f3 hh;exact⟨A,c,e,k.reads hr⟩,
  fun hh=>by obtain⟨g,e,hg,hl⟩:=h.f4 hh;exact⟨g,e,hg,hl.kept k⟩,
  fun hh=>by obtain⟨g,e,hg,hl⟩:=h.f5 hh;exact⟨g,e,hg,hl.kept k⟩,h.f6,
  fun hh=>by obtain⟨g,e,hg,hl⟩:=h.f7 hh;exact⟨g,e,hg,hl.kept k⟩,h.cl,
  fun hh=>by obtain⟨g,e,hg,hl⟩:=h.f8 hh;exact⟨g,e,hg,hl.kept k⟩⟩
theorem Zkn (w:World):CA 281 #[.int .i64 2,.int .i64 1,.bool false] w fun e w'=>e=.returned (.tuple #[.int .i64 2,.nilIface])/\w'=w:=by
 go_enter func281,ntmps281
 go_wp2
 go_ret2
 exact⟨rfl,rfl⟩
theorem Zee (w:World):CA 281 #[.int .i64 2,.int .i64 0,.bool true] w fun e w'=>e=.returned (.tuple #[.int .i64 4,.nilIface])/\w'=w:=by
 go_enter func281,ntmps281
 go_wp2
 go_ret2
 exact⟨rfl,rfl⟩
end
end Go.Proofs.YtbgnggkgmeagkaaGreatDoor
