/-
  A part of the proof of TopAlike: each theorem states its own conditions.
-/
import Derived.Test.YtbgnggkgmeagkaaGreatDoorMTopAlike24
set_option linter.unusedSimpArgs false
set_option linter.unusedVariables false
set_option maxRecDepth 100000
set_option maxHeartbeats 16000000
namespace Go.Proofs.YtbgnggkgmeagkaaGreatDoor
open Go.Proofs.Tryz
section
open Go.RowKit Go.Shelf
attribute [local go_sem] Oper.semAt_some
def lopA (l:Nat)(r:Loop):Zae:=⟨fun k=>k=l,fun w=>w.heap[l]? =some (.loop r),fun _ _ _ hk hS hl h=>(hk.block l (hl l rfl) (hS l rfl)).trans h⟩
theorem Sep.lop {w:World}{L:List Zae}{l i:Nat}{r:Loop}(h:Sep w L)(hi:L[i]? =some (lopA l r)):w.heap[l]? =some (.loop r):=h.get hi
theorem Sep.setLop {w:World}{L:List Zae}{l i:Nat}{r:Loop}(h:Sep w L)(hi:L[i]? =some (lopA l r))(r':Loop):Sep (w.putObj l (.loop r')) (L.set i (lopA l r')):=by
 have hg:=grownBy_putObj' w l (.loop r')
 have hlt:=(Array.getElem?_eq_some_iff.1 (h.lop hi)).1
 refine h.upd hi (show Zax (fun k=>k=l) _ _ from⟨hg.os,hg.tape,hg.output,hg.size,fun k hk hn=>hg.block k hk (fun e=>hn (by cases e;rfl))⟩) (World.putObj_heap_same hlt) ?_ (fun k hk=> .inl hk)
 rintro k rfl
 exact Nat.lt_of_lt_of_le hlt hg.size
theorem Z1b (n:Nat)(hn:1<=n)(l Bs Bn b off cap:Nat)(hlc:4<=cap)(T:World->Prop)(W:World)(hs:W.cell? ⟨Bs,0,none⟩=some (.slice (some ⟨b,off,none⟩) 4 cap))(hn4:W.cell? ⟨Bn,0,none⟩=some (.int .i64 100))
  (hY:YieldAt Fence.wide (n-1) prog l #[.slice (some ⟨b,off,none⟩) 4 4] W.drew fun e W'=>e=.returned (.bool true)/\T W'/\W'.cell? ⟨Bs,0,none⟩=some (.slice (some ⟨b,off,none⟩) 4 cap)/\W'.cell? ⟨Bn,0,none⟩=some (.int .i64 100)):
  CallsIn Fence.wide n prog 159 (#[.func (.yield l) #[] #[]]++ #[.pointer (some ⟨Bs,0,none⟩),.pointer (some ⟨Bn,0,none⟩)]) W fun e W'=>(∃v,e=.returned v)/\T W':=by
 have hl1:=World.block_lt_of_cell? W _ hs
 have hl2:=World.block_lt_of_cell? W _ hn4
 obtain⟨fn,tmps,assign,body,hy,hR⟩:=hY
 have HRR:=Hd hR
 have hmin:(min 100 4:Int)=4:=by decide
 have hmx:prog.follows .mixedOrders=true:=by kernel_rfl
 clear hR
 refine callsIn_of_wp func159 rfl trivial ?_ rfl
 simp only[ntmps159,List.size_toArray,List.length_cons,List.length_nil,Nat.reduceAdd,Nat.reduceSub,Array.replicate_succ,Array.replicate_zero,List.push_toArray,List.append_toArray,List.nil_append,List.cons_append]
 gi_wp2
 refine wpIn_loop_rounds 2 ?_
 rw[roundsIn_succ]
 gi_wp2
 gi_region
 all_goals gi_wp2
 all_goals
  refine HRR.out.mono ?_
  rintro e W3 ⟨rfl,hT3,t1,t2⟩
  have hm1:=World.block_lt_of_cell? W3 _ t1
  have hm2:=World.block_lt_of_cell? W3 _ t2
  have HT3:=Hd hT3
  clear hs hn4 hl1 hl2 hT3 hy
  gi_wp2
  rw[roundsIn_succ]
  gi_wp2
  go_end0
  exact⟨⟨_,rfl⟩,HT3.out⟩
theorem Zth {n:Nat}(hn:3<=n){g:Operand}{p:Tmp}{assign body:Code}{Q:Exit->Act->World->Prop}{a:Act}{w:World}{L:List Zae}{Bs Bn b off cap:Nat}{t1 t2:TypeId}(hcap:4<=cap)
  (hg:a.eval g=.func (.func 159) #[] #[.pointer (some ⟨Bs,0,none⟩),.pointer (some ⟨Bn,0,none⟩)])
  (h:Sep w (Zaa Bs t1 #[.slice (some ⟨b,off,none⟩) 4 cap]::Zaa Bn t2 #[.int .i64 100]::L)) (a₁:Act)
  (hassign:∀(l:Nat) (W:World) (K:Act->World->Prop),K a₁ W->assign.wpIn (Fence.wide.inRound l) (n-1-1) prog (Exit.then K (fun _ _ _=>False)) {tmps:=a.tmps.setIfInBounds p (.slice (some ⟨b,off,none⟩) 4 4),defers:=[]} W)
  (R:List Zae->Prop)
  (hbody:∀(l D:Nat) (r:Loop) (W:World),Sep W (defA D::lopA l r::Zaa Bs t1 #[.slice (some ⟨b,off,none⟩) 4 cap]::Zaa Bn t2 #[.int .i64 100]::L)->
   body.wpIn (Fence.wide.inRound l) (n-1-1) prog (fun e _ W'=>e=.normal/\∃M,R M/\Sep W' (defA D::lopA l r::Zaa Bs t1 #[.slice (some ⟨b,off,none⟩) 4 cap]::Zaa Bn t2 #[.int .i64 100]::M)) a₁ W)
  (hdone:∀(D:Nat) (W:World) (M:List Zae),R M->Sep W (defA D::M)->Q .normal {a with defers:={target:=.collected D,args:= #[]}::a.defers} W):
  (Code.rangeFunc g #[p] assign body).wpIn Fence.wide n prog Q a w:=by
 refine wpIn_rangeFunc ?_
 intro fn hfn
 obtain⟨rec,hrec⟩:∃rec:LoopState->Option Code->Loop,rec=fun st pe=>{state:=st,pending:=pe,fn,tmps:=a.tmps,params:= #[p],assign,body,defers:=w.heap.size}:=⟨_,rfl⟩
 obtain⟨W1,hW1⟩:=exl ((w.alloc (.deferred (some []))).alloc (.loop (rec .ready none)))
 have hL1:W1.heap[w.heap.size+1]? =some (.loop (rec .ready none)):=by
  rw[<-hW1];have:=World.alloc_heap_new (w.alloc (.deferred (some []))) (.loop (rec .ready none));rwa [World.size_alloc]at this
 have hK1:W1.heap[w.heap.size]? =some (.deferred (some [])):=by
  rw[<-hW1];exact(Below.heap_alloc _ _ _ (by simp)).trans (World.alloc_heap_new w _)
 have hb1:Below w.heap.size w W1:=by
  rw[<-hW1];exact((Below.refl _ w).alloc (Nat.le_refl _) _).alloc (by simp) _
 have hsz:W1.heap.size=w.heap.size+2:=by rw[<-hW1];simp
 obtain⟨l,hl⟩:=exl (w.heap.size+1)
 have hS1:Sep W1 (defA w.heap.size::lopA l (rec .ready none)::Zaa Bs t1 #[.slice (some ⟨b,off,none⟩) 4 cap]::Zaa Bn t2 #[.int .i64 100]::L):=by
  have h1:Sep W1 (lopA l (rec .ready none)::Zaa Bs t1 #[.slice (some ⟨b,off,none⟩) 4 cap]::Zaa Bn t2 #[.int .i64 100]::L):=
   h.new hb1 (by subst hl;exact hL1) (by rintro k rfl;subst hl;exact⟨Nat.le_succ _,by omega⟩)
  exact⟨fun c hc=>(List.mem_cons.1 hc).elim (fun e=>by subst e;exact⟨hK1,by rintro k rfl;omega⟩) (h1.all c),List.pairwise_cons.2 ⟨fun c hc k hk hk2=>by
   cases hk
   rcases List.mem_cons.1 hc with rfl | hc
   ·have hk2:w.heap.size=l:=hk2
    omega
   ·have:=(h.all c hc).2 _ hk2
    omega,h1.apart⟩⟩
 rw[hl]at hL1
 refine⟨l,[{target:=.collected w.heap.size,args:= #[]}],W1,{target:=.fn (.func 159) #[.pointer (some ⟨Bs,0,none⟩),.pointer (some ⟨Bn,0,none⟩)],args:= #[.func (.yield l) #[] #[]]},W1,159,
  #[.func (.yield l) #[] #[]]++ #[.pointer (some ⟨Bs,0,none⟩),.pointer (some ⟨Bn,0,none⟩)],W1,?_,?_,?_,?_,fun _=>by omega,?_⟩
 ·rw[<-hW1,hrec,<-hl];exact run_enterLoop_outer _ _ _ _ _
 ·simp only[resolve,hg]
  simp[go_sem]
 ·intro f' hf';simp[Target.leads]at hf';subst hf';exact trivial
 ·simp[invoke,go_sem,enters_of func159 (by kernel_rfl) rfl]
 ·refine(Z1b (n-1) (by omega) l Bs Bn b off cap hcap (fun W'=>∃M,R M/\Sep W' (defA w.heap.size::lopA l (rec .ready none)::Zaa Bs t1 #[.slice (some ⟨b,off,none⟩) 4 cap]::Zaa Bn t2 #[.int .i64 100]::M)) W1 ((hS1.at_ (i:=2) rfl).1 0) ((hS1.at_ (i:=3) rfl).1 0) ?_).mono ?_
  ·have hS2:=hS1.drew
   have hL2:=hS2.lop (i:=1) rfl
   have hy:=run_yield (P:=prog) (args:= #[.slice (some ⟨b,off,none⟩) 4 4]) hL2 (by rw[hrec];rfl)
   have hgo:=run_beginRound (P:=prog) hL2 (by rw[hrec])
   have hS3:=hS2.setLop (i:=1) rfl {rec .ready none with state:=.busy}
   rw[hrec]at hy hgo hS3
   refine⟨fn,a.tmps.setIfInBounds p (.slice (some ⟨b,off,none⟩) 4 4),assign,body,by simpa using hy,roundIn_of_wpIn hfn (hassign l _ _ ⟨_,hgo,?_⟩)⟩
   refine wpIn_mono (hbody l w.heap.size _ _ hS3) ?_
   rintro e a3 W3 ⟨rfl,M,hM,hS⟩
   have hS4:=hS.setLop (i:=1) rfl (rec .ready none)
   have hr:(Instr.endRound l none).run prog W3=.ok (.bool true) (W3.putObj l (.loop (rec .ready none))):=by
    have:=run_endRound (P:=prog) none (hS.lop (i:=1) rfl)
    rw[hrec]
    exact this
   exact⟨_,_,hr,rfl,⟨M,hM,hS4⟩,(hS4.at_ (i:=2) rfl).1 0,(hS4.at_ (i:=3) rfl).1 0⟩
  ·rintro e W2 ⟨⟨v,rfl⟩,M,hM,hS⟩
   have hr:=run_endLoop (P:=prog) (hS.lop (i:=1) rfl) (by rw[hrec];simp)
   rw[hrec]at hr
   refine⟨none,_,hr,hdone _ _ M hM ?_⟩
   have h9:=hS.setLop (i:=1) rfl {rec .ready none with state:=.exhausted}
   rw[hrec]at h9
   exact((h9.drop_ 1).drop_ 1).drop_ 1
end
section
open Go.RowKit Go.Shelf
def DeB (w:World):Prop:=w.cell? ⟨7,15,none⟩=some (.int .u8 4)
theorem DeB.next {w w':World}(h:DeB w)(hb:Below w.heap.size w w'):DeB w':=(hb.cell (World.block_lt_of_cell? w _ h)).trans h
theorem tz_16 (w:World)(h:DeB w):CA 265 #[.int .u64 16] w fun e w'=>e=.returned (.int .i64 4)/\w=w':=by
 unfold DeB at h
 have hl:=World.block_lt_of_cell? w _ h
 have e1:IntKind.u64.wrap (-16)=18446744073709551600:=by decide
 have e2:bits .and .u64 16 18446744073709551600=16:=by kernel_rfl
 have e3:IntKind.u64.wrap 4573923408821661840=4573923408821661840:=by decide
 go_enter func265,ntmps265
 go_wp2
 go_ret
 exact⟨rfl,rfl⟩
theorem pw2_16 (w:World):CA 264 #[.int .i64 16] w fun e w'=>e=.returned (.bool true)/\w=w':=by
 have e1:bits .and .i64 16 15=0:=by kernel_rfl
 go_enter func264,ntmps264
 go_wp2
 go_ret
 exact⟨rfl,rfl⟩
theorem zc_64 :Tryz.zeroCells344[64]? =some (.int .u8 0):=by kernel_rfl
theorem fmt_16 (w:World)(h:DeB w):CA 200 #[.slice none 0 0,.int .u64 4,.int .i64 16,.bool false,.bool true] w fun e w'=>∃A c,e=.returned (.tuple #[.slice A 1 c,.string ⟨#[]⟩])/\w'.ownsRow w.heap.size 5 1 (.slice A 1 c) 1 (bs [52])/\Below w.heap.size w w':=by
 obtain⟨i0,hi0,hz0,hz1,hz2⟩:=info_parts Zbz
 have HD:=Hd h
 clear h
 go_enter func200,ntmps200
 go_wp2_with fail
 have hb:=(Below.refl w.heap.size w).alloc (Nat.le_refl _) (.cells Tryz.zeroCells344 344)
 have hB:=Blk.new w 344 Tryz.zeroCells344
 obtain⟨w1,hw1⟩:=exl (w.alloc (.cells Tryz.zeroCells344 344))
 rw[hw1]at hb hB⊢
 have HB:=Hd hb
 have HK:=Hd hB
 have c64:w1.cell? ⟨w.heap.size,64,none⟩=some (.int .u8 0):=(hB.cell 64).trans zc_64
 have f64:=hB.frozen 64
 have l64:=hB.lt
 have HT:=Hd (tz_16 w1 (HD.out.next hb))
 clear hw1 hb hB HD
 refine(pw2_16 w1).mono ?_
 rintro e w' ⟨rfl,rfl⟩
 go_wp2_with fail
 refine Mo HT ?_
 rintro e w' ⟨rfl,rfl⟩
 go_wp2
 refine wp_loop_rounds 1 ?_
 rw[rounds_succ]
 have e5:(ByteArray.mk #[48,49,50,51,52,53,54,55,56,57,97,98,99,100,101,102,103,104,105,106,107,108,109,110,111,112,113,114,115,116,117,118,119,120,121,122])[4]'(by decide)=52:=by rfl
 go_upto_region 29 with fail
 obtain⟨w2,hw2⟩:=exl (w1.setCell ⟨w.heap.size,64,none⟩ (.int .u8 52))
 rw[hw2]
 have hB2:=HK.out.set_ 64 (.int .u8 52)
 have hb2:=HB.out.setCell (p:=⟨w.heap.size,64,none⟩) (Nat.le_refl _) (.int .u8 52)
 rw[hw2]at hB2 hb2
 have hc64:w2.cell? ⟨w.heap.size,64,none⟩=some (.int .u8 52):=(hB2.cell 64).trans (by kernel_rfl)
 have HR:Zab w2 w2.heap.size 1 (some ⟨w.heap.size,64,none⟩) 1 (bs [52]):=⟨rfl,fun _=>⟨_,rfl,hB2.lt,fun j u hj=>by
  match j,hj with
  | 0,hj=>
   cases hj
   rw[Addr.add_lit,Nat.add_zero]
   exact hc64
  | j+1,hj=>simp[bs]at hj⟩⟩
 have HR2:=Hd HR
 have HB2:=Hd hb2
 clear hc64 hw2 hB2 hb2 HR c64 f64 l64 e5 HT HK HB
 go_wp2_with (at_builtin;refine Zah _ rfl _ _ 23 rfl w.heap.size 5 i0 (.int .u8 0) 1 1 underlying23 hi0 hz0 hz1 hz2 rfl (by decide) _ 0 [] rfl (World.ownsRow_nil _ _ _ _) _ (some ⟨w.heap.size,64,none⟩) 1 1 (bs [52]) rfl HR2.out (Zcj _) (by simp only[maxLen];omega) (by omega) HB2.out.size ?_;intro v' w' hown' hg _)
 go_ret2
 obtain⟨A',c',rfl⟩:=Zas hown'
 exact⟨A',c',rfl,hown',HB2.out.grown hg HB2.out.size (fun k e=>by cases e)⟩
theorem app_16 (w:World)(h:DeB w):CA 172 #[.slice none 0 0,.int .i64 4,.int .i64 16] w fun e w'=>∃A c,e=.returned (.slice A 1 c)/\w'.ownsRow w.heap.size 5 1 (.slice A 1 c) 1 (bs [52])/\Below w.heap.size w w':=by
 have HF:=Hd (fmt_16 w h)
 clear h
 have HU:Hid (CA 298 #[.slice none 0 0,.int .u64 4,.int .i64 16] w fun e w'=>∃A c,e=.returned (.slice A 1 c)/\w'.ownsRow w.heap.size 5 1 (.slice A 1 c) 1 (bs [52])/\Below w.heap.size w w'):=by
  go_enter func298,ntmps298
  go_wp2_with fail
  refine Mo HF ?_
  rintro e w' ⟨A,c,rfl,h1,h2⟩
  have H1:=Hd h1
  have H2:=Hd h2
  clear h1 h2 HF
  go_wp2
  go_ret
  exact⟨A,c,rfl,H1.out,H2.out⟩
 have HI:Hid (CA 249 #[.slice none 0 0,.int .i64 4,.int .i64 16] w fun e w'=>∃A c,e=.returned (.slice A 1 c)/\w'.ownsRow w.heap.size 5 1 (.slice A 1 c) 1 (bs [52])/\Below w.heap.size w w'):=by
  go_enter func249,ntmps249
  go_wp2_with fail
  refine Mo HU ?_
  rintro e w' ⟨A,c,rfl,h1,h2⟩
  have H1:=Hd h1
  have H2:=Hd h2
  clear h1 h2 HF HU
  go_wp2
  go_ret
  exact⟨A,c,rfl,H1.out,H2.out⟩
 go_enter func172,ntmps172
 go_wp2_with fail
 refine Mo HI ?_
 rintro e w' ⟨A,c,rfl,h1,h2⟩
 have H1:=Hd h1
 have H2:=Hd h2
 clear h1 h2 HF HU HI
 go_wp2
 go_ret
 exact⟨A,c,rfl,H1.out,H2.out⟩
end
section
open Go.RowKit Go.Shelf
attribute [local go_sem] Oper.semAt_some
theorem Zw7 (F:Fence)(n:Nat)(h81:F.fn 105)(hro:F.round=none)(A:Option Addr)(len cap:Nat)(w:World):
  CallsIn F n prog 105 #[.slice A len cap,.int .i64 100] w fun e w'=>e=.returned (.func (.func 159) #[] #[.pointer (some ⟨w.heap.size,0,none⟩),.pointer (some ⟨w.heap.size+1,0,none⟩)])/\
   w'=(w.alloc (.cells #[.slice A len cap] 23)).alloc (.cells #[.int .i64 100] 3):=by
 refine callsIn_of_wp func105 rfl h81 ?_ hro
 simp only[ntmps105,List.size_toArray,List.length_cons,List.length_nil,Nat.reduceAdd,Nat.reduceSub,Array.replicate_succ,Array.replicate_zero,List.push_toArray,List.append_toArray,List.nil_append,List.cons_append]
 gi_wp2
 go_ret
 exact⟨rfl,rfl⟩
def encO :List UInt8:=[52,13,10,47,112,33,120,13,10]
theorem Zhe {F:Fence}{n':Nat}{P:Program}{ops:Array Oper}{rest:List Oper}{o:Oper}{a:Act}{Q:Exit->Act->World->Prop}{w:World}(hgd:o.guard=none)(s x:Operand)(t u:TypeId)
  (ho:o.op=.call {callee:=.builtin .append,args:= #[s,x],argTypes:= #[t,u]}) (v0 x0:Value) (hs:a.eval s=v0) (hx:a.eval x=x0) (v':Value) (w':World)
  (hrun:(Builtin.append_ #[t,u] o.type #[v0,x0]).run P w=.ok v' w') (h:wpListIn F n' P ops Q rest (a.put o.dst v') w'):wpListIn F n' P ops Q (o::rest) a w:=by
 refine wpListIn_plain hgd fun K hK=> ?_
 unfold Oper.wpIn
 refine⟨by simp[Oper.about,ho,resolve,Target.leads,Sem.run_pure],?_⟩
 rw[Oper.semAt_plain F _ _ (by rw[ho];intro c hc';cases hc')]
 simp[execOp,ho,resolve,invoke,builtin,hs,hx,hrun,Result.andThen]
 exact hK _ _ h
theorem Z0o {W Wc:World}{pb x y c l m:Nat}{A:Option Addr}{ad:Addr}(hpb:pb=Wc.heap.size)(hp:Zab W W.heap.size 1 (some ad) 4 (bs Zb6))(hb:Below W.heap.size W Wc)(hk:Kc W Wc)(hA:Zab Wc Wc.heap.size 1 A 1 (bs [52]))(hx:Lit Wc x)(hy:Lit Wc y):
  CallsIn (Fence.wide.inRound l) m prog 158 #[.slice (some ⟨pb,0,none⟩) 5 5] (Wc.alloc (.cells #[.slice none 0 0,.slice A 1 c,.slice (some ⟨x,0,none⟩) 2 2,.slice (some ad) 4 4,.slice (some ⟨y,0,none⟩) 2 2] 23)) fun e w'=>∃A' c',e=.returned (.slice A' 9 c')/\w'.ownsRow W.heap.size 5 1 (.slice A' 9 c') 9 (bs encO)/\Below W.heap.size W w':=by
 subst hpb
 have hB:=Blk.new Wc 23 #[.slice none 0 0,.slice A 1 c,.slice (some ⟨x,0,none⟩) 2 2,.slice (some ad) 4 4,.slice (some ⟨y,0,none⟩) 2 2]
 have kk:=(Kc.refl Wc).alloc (.cells #[.slice none 0 0,.slice A 1 c,.slice (some ⟨x,0,none⟩) 2 2,.slice (some ad) 4 4,.slice (some ⟨y,0,none⟩) 2 2] 23)
 have hb2:=hb.alloc hk.1 (.cells #[.slice none 0 0,.slice A 1 c,.slice (some ⟨x,0,none⟩) 2 2,.slice (some ad) 4 4,.slice (some ⟨y,0,none⟩) 2 2] 23)
 obtain⟨WC,hWC⟩:=exl (Wc.alloc (.cells #[.slice none 0 0,.slice A 1 c,.slice (some ⟨x,0,none⟩) 2 2,.slice (some ad) 4 4,.slice (some ⟨y,0,none⟩) 2 2] 23))
 rw[hWC]at hB kk hb2⊢
 have hps:Ze1 WC 1 Wc.heap.size [⟨none,0,0,[]⟩,⟨A,1,c,bs [52]⟩,⟨some ⟨x,0,none⟩,2,2,bs [13,10]⟩,⟨some ad,4,4,bs Zb6⟩,⟨some ⟨y,0,none⟩,2,2,bs [13,10]⟩]:=by
  intro k hk'
  match k,hk' with
  | 0,_=>exact⟨hB.cell 0,Zab.none_,by simp⟩
  | 1,_=>exact⟨hB.cell 1,kk.reads hA,Zcj _⟩
  | 2,_=>exact⟨hB.cell 2,hx.kept kk,Zcj _⟩
  | 3,_=>exact⟨hB.cell 3,kk.reads (hk.reads hp),Zcj _⟩
  | 4,_=>exact⟨hB.cell 4,hy.kept kk,Zcj _⟩
 refine CallsIn.inRound l (callsIn_wide.2 ((Zfx _ _ _ hps (by simp[Zcm]) (by simp)).mono ?_))
 rintro e w' ⟨v,rfl,hown,hb3⟩
 change w'.ownsRow _ _ 1 v 9 (bs encO)at hown
 obtain⟨A',c',rfl⟩:=Zas hown
 exact⟨A',c',rfl,⟨hown.1,hown.2.elim Or.inl (fun⟨g,cap,cur,hv,hg,r⟩=>Or.inr ⟨g,cap,cur,hv,Nat.le_trans hb2.size hg,r⟩)⟩,hb2.trans (hb3.mono hb2.size)⟩
theorem app_in {W Wc:World}{l m:Nat}(hD:DeB W)(hb:Below W.heap.size W Wc):CallsIn (Fence.wide.inRound l) m prog 172 #[.slice none 0 0,.int .i64 4,.int .i64 16] Wc fun e w'=>∃A c,e=.returned (.slice A 1 c)/\Below W.heap.size W w'/\Below Wc.heap.size Wc w'/\Zab w' w'.heap.size 1 A 1 (bs [52]):=
 CallsIn.inRound l (callsIn_wide.2 ((app_16 _ (hD.next hb)).mono fun _ _ ⟨A,c,he,hown,hb2⟩=>⟨A,c,he,hb.trans (hb2.mono hb.size),hb2,Zab.of_own hown⟩))
theorem done_loc {W w':World}{A:Option Addr}{c:Nat}{i0:TypeInfo}{v':Value}(hi:prog.info? 5=some i0)(hz:i0.zero=some (.int .u8 0))(hs:i0.size=1)(hby:i0.bytes=1)
  (hown:W.ownsRow 0 5 1 (.slice A 9 c) 9 (bs encO)) (hr:(Builtin.append_ #[23,9] 23 #[.slice A 9 c,.string ⟨#[48,13,10,13,10]⟩]).run prog W=.ok v' w'):
  v'.ownBlock=(Value.slice A 9 c).ownBlock∨∀k,v'.ownBlock=some k->W.heap.size<=k:=by
 rcases hown.2 with⟨h1,h2⟩ | ⟨g,cap,cur,h1,_,hg,hnc,hcm,hcs,htake⟩
 ·cases h2
 ·cases h1
  by_cases hroom:9+5<=c
  ·have hcs1:cur.size=c:=by simpa using hcs
   have hcs2:9+(ByteArray.mk #[48,13,10,13,10]).size<=cur.size:=by rw[hcs1];exact hroom
   have h:=Lib.run_append_room_string (P:=prog) (w:=W) 23 9 23 5 i0 underlying23 underlying9 hi hs g 9 c cur hg ⟨#[48,13,10,13,10]⟩ hroom hcs2
   rw[h]at hr
   cases hr
   exact .inl rfl
  ·have h:=Lib.run_append_grow_string (P:=prog) (w:=W) 23 9 23 5 i0 (.int .u8 0) underlying23 underlying9 hi hz ⟨g,0,none⟩ 9 c (bs encO) (by rw[hs];rfl) (hown.cells (g:=g) rfl) ⟨#[48,13,10,13,10]⟩ (by show c < 9+5;omega) (by decide) (by rw[hby];exact growslice_fits (by show c < 9+5;omega) (by show 9+5<=_;omega))
   rw[h]at hr
   cases hr
   exact .inr fun k hk=>by cases hk;exact Nat.le_refl _
theorem Z1d {w w0:World}{F:List Zae}{io bg bo bc:Nat}(hD:DeB w0)(hio:F[io]? =some (Zel w0))(hR:RdIn F ⟨bg,bo,none⟩ Zb6)(hbc:4<=bc)(h:Sep w F):
  CA 118 #[.slice (some ⟨bg,bo,none⟩) 4 bc,.int .i64 100] w fun e w'=>∃A c,e=.returned (.tuple #[.slice A 14 c,.nilIface])/\Sep w' (Zad 5 1 (.slice A 14 c) 14 (bs Zln)::F):=by
 have h1:=h.newBlk 23 #[.slice none 0 0]
 have h2:=(h1.newBlk 23 #[.slice (some ⟨bg,bo,none⟩) 4 bc]).newBlk 3 #[.int .i64 100]
 simp only[World.size_alloc]at h2
 have H2:=Hd (h2.front 1 rfl)
 clear h h1 h2
 refine(callsIn_wide (n:=7)).1 ?_
 refine callsIn_of_wp_marks func118 rfl trivial ?_ rfl
 simp only[ntmps118,List.size_toArray,List.length_cons,List.length_nil,Nat.reduceAdd,Nat.reduceSub,Array.replicate_succ,Array.replicate_zero,List.push_toArray,List.append_toArray,List.nil_append,List.cons_append]
 gi_wp2_with (first
  | (refine⟨trivial,?_⟩;gi_at_call 105;refine(Zw7 Fence.wide _ trivial rfl _ _ _ _).mono ?_;rintro e w' ⟨rfl,rfl⟩)
  | (refine⟨trivial,?_⟩))
 refine Zth (by decide) (Bs:=w.heap.size+1) (Bn:=w.heap.size+1+1) hbc rfl H2.out ({tmps:= #[.slice (some ⟨bg,bo,none⟩) 4 bc,.int .i64 100,undef,undef,.slice none 0 0,.nilIface,.pointer (some ⟨w.heap.size,0,none⟩),.slice (some ⟨bg,bo,none⟩) 4 4,.bool false,.int .i64 100,.bool false,.bool false,.int .i64 100,.bool false,.bool false,undef,.bool false,.slice (some ⟨bg,bo,none⟩) 4 bc,.int .i64 4,.bool false,undef,.slice (some ⟨bg,bo,none⟩) 4 bc,.int .i64 100,.func (.func 159) #[] #[.pointer (some ⟨w.heap.size+1,0,none⟩),.pointer (some ⟨w.heap.size+1+1,0,none⟩)],.slice (some ⟨bg,bo,none⟩) 4 4,undef,undef,undef,undef,undef,undef,undef,undef,undef,undef,undef,undef,undef],defers:=[]}) ?assign (fun M=>∃A c,M=(Zaa w.heap.size 23 #[.slice A 9 c]::Zad 5 1 (.slice A 9 c) 9 (bs encO)::F)) ?body ?done
 case assign=>
  intro l W K hK
  gi_wp2
  exact hK
 case body=>
  intro l D r W hW
  have kO:=hW.at_ (i:=4) rfl
  have hDW:=hD.next (hW.old (i:=io+5) hio)
  have HP:=Hd (hR W hW.tail.tail.tail.tail.tail)
  have HW:=Hd hW
  have HD:=Hd hDW
  have hmx:prog.follows .mixedOrders=true:=by kernel_rfl
  clear hW hDW H2
  gi_wp2_with fail
  refine Zvv hmx (fun a w'=>∃x25 x26 x27 x28 x29 x30 x31 x32 x33 x34 A9 c9,a={tmps:= #[.slice (some ⟨bg,bo,none⟩) 4 bc,.int .i64 100,undef,undef,.slice none 0 0,.nilIface,.pointer (some ⟨w.heap.size,0,none⟩),.slice (some ⟨bg,bo,none⟩) 4 4,.bool false,.int .i64 100,.bool false,.bool false,.int .i64 100,.bool false,.bool false,undef,.bool false,.slice (some ⟨bg,bo,none⟩) 4 bc,.int .i64 4,.bool false,undef,.slice (some ⟨bg,bo,none⟩) 4 bc,.int .i64 100,.func (.func 159) #[] #[.pointer (some ⟨w.heap.size+1,0,none⟩),.pointer (some ⟨w.heap.size+1+1,0,none⟩)],.slice (some ⟨bg,bo,none⟩) 4 4,x25,x26,x27,x28,x29,x30,x31,x32,x33,x34,.slice A9 9 c9,undef,undef],defers:=[]}/\Sep w' (Zad 5 1 (.slice A9 9 c9) 9 (bs encO)::defA D::lopA l r::Zaa (w.heap.size+1) 23 #[.slice (some ⟨bg,bo,none⟩) 4 bc]::Zaa (w.heap.size+1+1) 3 #[.int .i64 100]::Zaa w.heap.size 23 #[.slice A9 9 c9]::F)) (fun listed a w'=>
   (∃b0 b1 b2 b3 b4 b5 b6 b7 b8 x25 x26 x27 x28 x29 x30 x31 x32 x33,listed= #[b0,b1,b2,b3,b4,b5,b6,b7,b8,false,false,false]/\a={tmps:= #[.slice (some ⟨bg,bo,none⟩) 4 bc,.int .i64 100,undef,undef,.slice none 0 0,.nilIface,.pointer (some ⟨w.heap.size,0,none⟩),.slice (some ⟨bg,bo,none⟩) 4 4,.bool false,.int .i64 100,.bool false,.bool false,.int .i64 100,.bool false,.bool false,undef,.bool false,.slice (some ⟨bg,bo,none⟩) 4 bc,.int .i64 4,.bool false,undef,.slice (some ⟨bg,bo,none⟩) 4 bc,.int .i64 100,.func (.func 159) #[] #[.pointer (some ⟨w.heap.size+1,0,none⟩),.pointer (some ⟨w.heap.size+1+1,0,none⟩)],.slice (some ⟨bg,bo,none⟩) 4 4,x25,x26,x27,x28,x29,x30,x31,x32,x33,undef,undef,undef,undef],defers:=[]}/\EncSt W w' ⟨bg,bo,none⟩ (.slice (some ⟨bg,bo,none⟩) 4 4) b0 b1 b2 b3 b4 b5 b6 b7 b8 x25 x26 x27 x28 x29 x30 x31 x32 x33)∨
   (∃x25 x26 x27 x28 x29 x30 x31 x32 x33 x34,listed= #[true,true,true,true,true,true,true,true,true,true,false,false]/\a={tmps:= #[.slice (some ⟨bg,bo,none⟩) 4 bc,.int .i64 100,undef,undef,.slice none 0 0,.nilIface,.pointer (some ⟨w.heap.size,0,none⟩),.slice (some ⟨bg,bo,none⟩) 4 4,.bool false,.int .i64 100,.bool false,.bool false,.int .i64 100,.bool false,.bool false,undef,.bool false,.slice (some ⟨bg,bo,none⟩) 4 bc,.int .i64 4,.bool false,undef,.slice (some ⟨bg,bo,none⟩) 4 bc,.int .i64 100,.func (.func 159) #[] #[.pointer (some ⟨w.heap.size+1,0,none⟩),.pointer (some ⟨w.heap.size+1+1,0,none⟩)],.slice (some ⟨bg,bo,none⟩) 4 4,x25,x26,x27,x28,x29,x30,x31,x32,x33,x34,undef,undef,undef],defers:=[]}/\∀m,CallsIn (Fence.wide.inRound l) m prog 158 #[x34] w' fun e w'=>∃A9 c9,e=.returned (.slice A9 9 c9)/\w'.ownsRow W.heap.size 5 1 (.slice A9 9 c9) 9 (bs encO)/\Below W.heap.size W w')∨
   (∃x25 x26 x27 x28 x29 x30 x31 x32 x33 x34 A9 c9,listed= #[true,true,true,true,true,true,true,true,true,true,true,false]/\a={tmps:= #[.slice (some ⟨bg,bo,none⟩) 4 bc,.int .i64 100,undef,undef,.slice none 0 0,.nilIface,.pointer (some ⟨w.heap.size,0,none⟩),.slice (some ⟨bg,bo,none⟩) 4 4,.bool false,.int .i64 100,.bool false,.bool false,.int .i64 100,.bool false,.bool false,undef,.bool false,.slice (some ⟨bg,bo,none⟩) 4 bc,.int .i64 4,.bool false,undef,.slice (some ⟨bg,bo,none⟩) 4 bc,.int .i64 100,.func (.func 159) #[] #[.pointer (some ⟨w.heap.size+1,0,none⟩),.pointer (some ⟨w.heap.size+1+1,0,none⟩)],.slice (some ⟨bg,bo,none⟩) 4 4,x25,x26,x27,x28,x29,x30,x31,x32,x33,x34,.slice A9 9 c9,undef,undef],defers:=[]}/\w'.ownsRow W.heap.size 5 1 (.slice A9 9 c9) 9 (bs encO)/\Below W.heap.size W w')∨
   (listed= #[true,true,true,true,true,true,true,true,true,true,true,true]/\(∃x25 x26 x27 x28 x29 x30 x31 x32 x33 x34 A9 c9,a={tmps:= #[.slice (some ⟨bg,bo,none⟩) 4 bc,.int .i64 100,undef,undef,.slice none 0 0,.nilIface,.pointer (some ⟨w.heap.size,0,none⟩),.slice (some ⟨bg,bo,none⟩) 4 4,.bool false,.int .i64 100,.bool false,.bool false,.int .i64 100,.bool false,.bool false,undef,.bool false,.slice (some ⟨bg,bo,none⟩) 4 bc,.int .i64 4,.bool false,undef,.slice (some ⟨bg,bo,none⟩) 4 bc,.int .i64 100,.func (.func 159) #[] #[.pointer (some ⟨w.heap.size+1,0,none⟩),.pointer (some ⟨w.heap.size+1+1,0,none⟩)],.slice (some ⟨bg,bo,none⟩) 4 4,x25,x26,x27,x28,x29,x30,x31,x32,x33,x34,.slice A9 9 c9,undef,undef],defers:=[]}/\Sep w' (Zad 5 1 (.slice A9 9 c9) 9 (bs encO)::defA D::lopA l r::Zaa (w.heap.size+1) 23 #[.slice (some ⟨bg,bo,none⟩) 4 bc]::Zaa (w.heap.size+1+1) 3 #[.int .i64 100]::Zaa w.heap.size 23 #[.slice A9 9 c9]::F)))) ?fin ?init ?hend ?hstep
  case fin=>
   rintro a w' ⟨x25,x26,x27,x28,x29,x30,x31,x32,x33,x34,A9,c9,rfl,h9⟩
   have H9:=Hd h9
   clear h9 kO
   gi_wp2
   exact⟨_,⟨A9,c9,rfl⟩,((((H9.out.front 5 rfl).front 5 rfl).front 5 rfl).front 5 rfl).front 5 rfl⟩
  case init=>
   refine .inl ⟨false,false,false,false,false,false,false,false,false,undef,undef,undef,undef,undef,undef,undef,undef,undef,rfl,rfl,?_⟩
   exact⟨(Below.refl _ _).drew,(Kc.refl _).drew,(by intro h;cases h),(by intro h;cases h),(by intro h;cases h),(by intro h;cases h),(by intro h;cases h),(by intro h;cases h),(by intro h;cases h),(by intro h;cases h),⟨(by intro h;cases h),(by intro h;cases h),(by intro h;cases h),(by intro h;cases h)⟩,(by intro h;cases h)⟩
  case hend=>
   intro listed a w' hI hr
   have hno:∀i,i∈Region.ready .any _ listed->False:=fun i hi=>by rw[hr]at hi;cases hi
   clear hr
   rcases hI with⟨b0,b1,b2,b3,b4,b5,b6,b7,b8,x25,x26,x27,x28,x29,x30,x31,x32,x33,rfl,-,-⟩ | ⟨x25,x26,x27,x28,x29,x30,x31,x32,x33,x34,rfl,-,-⟩ | ⟨x25,x26,x27,x28,x29,x30,x31,x32,x33,x34,A9,c9,rfl,-,-⟩ | ⟨-,hf⟩
   ·exfalso
    cases b0
    ·exact hno 0 (mem_ready.2 ⟨rfl,_,rfl,by simp[Region.binds]⟩)
    cases b1
    ·exact hno 1 (mem_ready.2 ⟨rfl,_,rfl,by simp[Region.binds]⟩)
    cases b2
    ·exact hno 2 (mem_ready.2 ⟨rfl,_,rfl,by simp[Region.binds]⟩)
    cases b3
    ·exact hno 3 (mem_ready.2 ⟨rfl,_,rfl,by simp[Region.binds]⟩)
    cases b4
    ·exact hno 4 (mem_ready.2 ⟨rfl,_,rfl,by simp[Region.binds]⟩)
    cases b5
    ·exact hno 5 (mem_ready.2 ⟨rfl,_,rfl,by simp[Region.binds]⟩)
    cases b6
    ·exact hno 6 (mem_ready.2 ⟨rfl,_,rfl,by simp[Region.binds]⟩)
    cases b7
    ·exact hno 7 (mem_ready.2 ⟨rfl,_,rfl,by simp[Region.binds]⟩)
    cases b8
    ·exact hno 8 (mem_ready.2 ⟨rfl,_,rfl,by simp[Region.binds]⟩)
    exact hno 9 (mem_ready.2 ⟨rfl,_,rfl,by simp[Region.binds]⟩)
   ·exact(hno 10 (mem_ready.2 ⟨rfl,_,rfl,by simp[Region.binds]⟩)).elim
   ·exact(hno 11 (mem_ready.2 ⟨rfl,_,rfl,by simp[Region.binds]⟩)).elim
   ·exact hf
  case hstep=>
   intro listed a w' i hI hi
   obtain⟨hl,o,ho,hd⟩:=mem_ready.1 hi
   have hlt:i < 12:=(Array.getElem?_eq_some_iff.1 ho).1
   clear hi
   rcases hI with⟨b0,b1,b2,b3,b4,b5,b6,b7,b8,x25,x26,x27,x28,x29,x30,x31,x32,x33,rfl,rfl,hs⟩ | ⟨x25,x26,x27,x28,x29,x30,x31,x32,x33,x34,rfl,rfl,hc⟩ | ⟨x25,x26,x27,x28,x29,x30,x31,x32,x33,x34,A9,c9,rfl,rfl,hown9,hb9⟩ | ⟨rfl,-⟩
   ·obtain rfl | rfl | rfl | rfl | rfl | rfl | rfl | rfl | rfl | rfl | rfl | rfl:i=0∨i=1∨i=2∨i=3∨i=4∨i=5∨i=6∨i=7∨i=8∨i=9∨i=10∨i=11:=by omega
    ·obtain rfl:=Option.some.inj ho
     have kc:w'.cell? ⟨w.heap.size,0,none⟩=some (.slice none 0 0):=(hs.bw.cell (p:=⟨w.heap.size,0,none⟩) kO.2.2).trans (kO.1 0)
     have kl:w.heap.size < w'.heap.size:=World.block_lt_of_cell? w' _ kc
     have HS:=Hd hs
     clear hs hd hl
     refine wpOpIn_step rfl ?_
     intro K' hK
     rw[if_pos (by rfl)]
     go_simp
     exact hK _ _ (.inl ⟨true,b1,b2,b3,b4,b5,b6,b7,b8,_,_,_,_,_,_,_,_,_,rfl,rfl,{HS.out with f0:=fun _=>rfl}⟩)
    ·obtain rfl:=Option.some.inj ho
     have HS:=Hd hs
     clear hs hd hl
     refine wpOpIn_step rfl ?_
     intro K' hK
     rw[if_pos (by rfl)]
     go_simp
     exact hK _ _ (.inl ⟨b0,true,b2,b3,b4,b5,b6,b7,b8,_,_,_,_,_,_,_,_,_,rfl,rfl,{HS.out with f1:=fun _=>rfl,cl:=⟨fun _=>rfl,HS.out.cl.2.1,HS.out.cl.2.2.1,HS.out.cl.2.2.2⟩}⟩)
    ·obtain rfl:=Option.some.inj ho
     have e1:b1=true:=hd ⟨1,.data⟩ (by simp) rfl
     have d1:=hs.f1 e1
     subst d1
     have HS:=Hd hs
     clear hs hd hl
     refine wpOpIn_step rfl ?_
     intro K' hK
     rw[if_pos (by rfl)]
     go_simp
     exact hK _ _ (.inl ⟨b0,b1,true,b3,b4,b5,b6,b7,b8,_,_,_,_,_,_,_,_,_,rfl,rfl,{HS.out with f2:=fun _=>rfl,cl:=⟨fun _=>e1,fun _=>rfl,HS.out.cl.2.2.1,HS.out.cl.2.2.2⟩}⟩)
    ·obtain rfl:=Option.some.inj ho
     have e2:b2=true:=hd ⟨2,.data⟩ (by simp) rfl
     have d2:=hs.f2 e2
     subst d2
     have HS:=Hd hs
     clear hs hd hl
     refine wpOpIn_step rfl ?_
     intro K' hK
     rw[if_pos (by rfl)]
     go_simp
     refine⟨trivial,?_⟩
     gi_at_call 172
     refine(app_in HD.out HS.out.bw).mono ?_
     rintro e wa ⟨A,c,rfl,hb',hk,hA⟩
     have hk':=(Kc.refl w').below hk
     exact hK _ _ (.inl ⟨b0,b1,b2,true,b4,b5,b6,b7,b8,_,_,_,_,_,_,_,_,_,rfl,rfl,{HS.out.next hb' hk' with f3:=fun _=>⟨A,c,rfl,hA⟩,cl:=⟨HS.out.cl.1,fun _=>e2,HS.out.cl.2.2.1,HS.out.cl.2.2.2⟩}⟩)
    ·obtain rfl:=Option.some.inj ho
     have HS:=Hd hs
     clear hs hd hl
     have hb':=HS.out.bw.alloc HS.out.kc.1 (.cells #[.int .u8 13,.int .u8 10] 5)
     have hk':=(Kc.refl w').alloc (.cells #[.int .u8 13,.int .u8 10] 5)
     refine wpOpIn_step rfl ?_
     intro K' hK
     rw[if_pos (by rfl)]
     go_simp
     exact hK _ _ (.inl ⟨b0,b1,b2,b3,true,b5,b6,b7,b8,_,_,_,_,_,_,_,_,_,rfl,rfl,{HS.out.next hb' hk' with f4:=fun _=>⟨_,rfl,HS.out.kc.1,Zzo rfl⟩,cl:=⟨HS.out.cl.1,HS.out.cl.2.1,fun _=>rfl,HS.out.cl.2.2.2⟩}⟩)
    ·obtain rfl:=Option.some.inj ho
     have e4:b4=true:=hd ⟨4,.data⟩ (by simp) rfl
     obtain⟨g,e,hg,hlit⟩:=hs.f4 e4
     subst e
     have hcv:=Zlj g 2 2 w'
     have hb':=Below.mark hs.bw hg
     have hk':=(Kc.refl w').mark g
     have HL:=Hd (hlit.mark g)
     have HG:=Hd hg
     clear hlit hg
     have HS:=Hd hs
     clear hs hd hl
     refine wpOpIn_step rfl ?_
     intro K' hK
     rw[if_pos (by rfl)]
     go_simp
     exact hK _ _ (.inl ⟨b0,b1,b2,b3,b4,true,b6,b7,b8,_,_,_,_,_,_,_,_,_,rfl,rfl,{HS.out.next hb' hk' with f5:=fun _=>⟨g,rfl,HG.out,HL.out⟩,cl:=⟨HS.out.cl.1,HS.out.cl.2.1,fun _=>e4,HS.out.cl.2.2.2⟩}⟩)
    ·obtain rfl:=Option.some.inj ho
     have HS:=Hd hs
     clear hs hd hl
     refine wpOpIn_step rfl ?_
     intro K' hK
     rw[if_pos (by rfl)]
     go_simp
     exact hK _ _ (.inl ⟨b0,b1,b2,b3,b4,b5,true,b7,b8,_,_,_,_,_,_,_,_,_,rfl,rfl,{HS.out with f6:=fun _=>rfl}⟩)
    ·obtain rfl:=Option.some.inj ho
     have HS:=Hd hs
     clear hs hd hl
     have hb':=HS.out.bw.alloc HS.out.kc.1 (.cells #[.int .u8 13,.int .u8 10] 5)
     have hk':=(Kc.refl w').alloc (.cells #[.int .u8 13,.int .u8 10] 5)
     refine wpOpIn_step rfl ?_
     intro K' hK
     rw[if_pos (by rfl)]
     go_simp
     exact hK _ _ (.inl ⟨b0,b1,b2,b3,b4,b5,b6,true,b8,_,_,_,_,_,_,_,_,_,rfl,rfl,{HS.out.next hb' hk' with f7:=fun _=>⟨_,rfl,HS.out.kc.1,Zzo rfl⟩,cl:=⟨HS.out.cl.1,HS.out.cl.2.1,HS.out.cl.2.2.1,fun _=>rfl⟩}⟩)
    ·obtain rfl:=Option.some.inj ho
     have e7:b7=true:=hd ⟨7,.data⟩ (by simp) rfl
     obtain⟨g,e,hg,hlit⟩:=hs.f7 e7
     subst e
     have hcv:=Zlj g 2 2 w'
     have hb':=Below.mark hs.bw hg
     have hk':=(Kc.refl w').mark g
     have HL:=Hd (hlit.mark g)
     have HG:=Hd hg
     clear hlit hg
     have HS:=Hd hs
     clear hs hd hl
     refine wpOpIn_step rfl ?_
     intro K' hK
     rw[if_pos (by rfl)]
     go_simp
     exact hK _ _ (.inl ⟨b0,b1,b2,b3,b4,b5,b6,b7,true,_,_,_,_,_,_,_,_,_,rfl,rfl,{HS.out.next hb' hk' with f8:=fun _=>⟨g,rfl,HG.out,HL.out⟩,cl:=⟨HS.out.cl.1,HS.out.cl.2.1,HS.out.cl.2.2.1,fun _=>e7⟩}⟩)
    ·obtain rfl:=Option.some.inj ho
     obtain rfl:b0=true:=hd ⟨0,.data⟩ (by simp) rfl
     obtain rfl:b3=true:=hd ⟨3,.data⟩ (by simp) rfl
     obtain rfl:b5=true:=hd ⟨5,.data⟩ (by simp) rfl
     obtain rfl:b6=true:=hd ⟨6,.data⟩ (by simp) rfl
     obtain rfl:b8=true:=hd ⟨8,.data⟩ (by simp) rfl
     obtain rfl:=hs.cl.2.1 rfl
     obtain rfl:=hs.cl.1 rfl
     obtain rfl:=hs.cl.2.2.1 rfl
     obtain rfl:=hs.cl.2.2.2 rfl
     obtain rfl:=hs.f0 rfl
     obtain⟨A,c,rfl,hA⟩:=hs.f3 rfl
     obtain⟨gx,rfl,-,hx⟩:=hs.f5 rfl
     obtain rfl:=hs.f6 rfl
     obtain⟨gy,rfl,-,hy⟩:=hs.f8 rfl
     have Hc:=Hd (fun m=>Z0o (l:=l) (m:=m) (c:=c) (W:=W) (pb:=w'.heap.size) rfl HP.out hs.bw hs.kc hA hx hy)
     clear hs hd hl hA hx hy
     refine wpOpIn_step rfl ?_
     intro K' hK
     rw[if_pos (by rfl)]
     go_simp
     exact hK _ _ (.inr (.inl ⟨_,_,_,_,_,_,_,_,_,_,rfl,rfl,fun m=>Hc.out m⟩))
    ·exact absurd (hd ⟨9,.data⟩ (by obtain rfl:=Option.some.inj ho;simp) rfl) (by simp)
    ·exact absurd (hd ⟨10,.data⟩ (by obtain rfl:=Option.some.inj ho;simp) rfl) (by simp)
   ·obtain rfl | rfl | hx:i=10∨i=11∨i < 10:=by omega
    ·obtain rfl:=Option.some.inj ho
     have Hc:=Hd hc
     clear hd hl hc
     refine wpOpIn_step rfl ?_
     intro K' hK
     rw[if_pos (by rfl)]
     go_simp
     refine⟨trivial,?_⟩
     refine(Hc.out _).mono ?_
     rintro e wc ⟨A9,c9,rfl,hown9,hb9⟩
     exact hK _ _ (.inr (.inr (.inl ⟨_,_,_,_,_,_,_,_,_,_,A9,c9,rfl,rfl,hown9,hb9⟩)))
    ·exact absurd (hd ⟨10,.data⟩ (by obtain rfl:=Option.some.inj ho;simp) rfl) (by simp)
    ·exfalso
     obtain rfl | rfl | rfl | rfl | rfl | rfl | rfl | rfl | rfl | rfl:i=0∨i=1∨i=2∨i=3∨i=4∨i=5∨i=6∨i=7∨i=8∨i=9:=by omega
     all_goals cases hl
   ·obtain rfl | hx:i=11∨i < 11:=by omega
    ·obtain rfl:=Option.some.inj ho
     have h9:=HW.out.newRow hb9 hown9
     have kO9:=h9.at_ (i:=5) rfl
     have H9:=Hd h9
     clear hd hl hown9 hb9 h9
     refine wpOpIn_step rfl ?_
     intro K' hK
     rw[if_pos (by rfl)]
     go_simp
     exact hK _ _ (.inr (.inr (.inr ⟨rfl,_,_,_,_,_,_,_,_,_,_,A9,c9,rfl,H9.out.set_ (i:=5) rfl 0 (.slice A9 9 c9)⟩)))
    ·exfalso
     obtain rfl | rfl | rfl | rfl | rfl | rfl | rfl | rfl | rfl | rfl | rfl:i=0∨i=1∨i=2∨i=3∨i=4∨i=5∨i=6∨i=7∨i=8∨i=9∨i=10:=by omega
     all_goals cases hl
   ·exfalso
    obtain rfl | rfl | rfl | rfl | rfl | rfl | rfl | rfl | rfl | rfl | rfl | rfl:i=0∨i=1∨i=2∨i=3∨i=4∨i=5∨i=6∨i=7∨i=8∨i=9∨i=10∨i=11:=by omega
    all_goals cases hl
 case done=>
  rintro D W M ⟨A,c,rfl⟩ hW
  have kO:=hW.at_ (i:=1) rfl
  obtain⟨i0,hi0,hz0,hz1,hz2⟩:=info_parts Zbz
  obtain⟨v',w',hr,hown,hg,-⟩:=Lib.run_append_own_string (P:=prog) (w:=W) 0 23 9 23 5 i0 underlying23 underlying9 hi0 hz0 hz1 hz2 (.slice A 9 c) 9 (bs encO) (hW.row (i:=2) rfl) ⟨#[48,13,10,13,10]⟩ (by decide) (by decide) (Nat.zero_le _)
  have hloc:=done_loc hi0 hz0 hz1 hz2 (hW.row (i:=2) rfl) hr
  change w'.ownsRow 0 5 1 v' 14 (bs Zln)at hown
  obtain⟨A2,c2,rfl⟩:=Zas hown
  have h2:=hW.grow (i:=2) rfl hown hg hloc
  have HR:=Hd hr
  have H7:=Hd h2
  clear hW H2 hown hg hr hi0 hz0 hz1 hz2 h2
  gi_wp2_with (refine Zhe rfl _ _ _ _ rfl _ _ rfl rfl (.slice A2 14 c2) w' HR.out ?_)
  refine⟨by simp,.inl ⟨_,_,rfl,run_takeDeferred (H7.out.def_ (i:=0) rfl),?_⟩⟩
  have h5:=H7.out.shut (.deferred none)
  exact⟨_,results_tmp2 rfl _ _ _,A2,c2,rfl,h5.tail⟩
end
section
open Go.RowKit Go.Shelf
def Zdx (code:Int)(fl body:Value):Array Value:= #[.int .i64 code,fl,body]
theorem ct_ok (s:Nat)(FA:Option Addr)(fc:Nat)(BA:Option Addr)(bc:Nat)(w:World):
  CA 117 #[.agg (Zdx 200 (.slice FA 0 fc) (.slice BA 4 bc)),.int .i64 ((s:Nat):Int)] w fun e w'=>e=.returned .nilIface/\Below w.heap.size w w':=by
 have hs:¬((s:Nat):Int) < 0:=by omega
 have hb:=(Below.refl w.heap.size w).alloc (Nat.le_refl _) (.cells #[.int .i64 200,.slice FA 0 fc,.slice BA 4 bc] 69)
 have HB:=Hd hb
 have q1:=Zij FA 0 fc BA 4 bc (w.alloc (.cells #[.int .i64 200,.slice FA 0 fc,.slice BA 4 bc] 69))
 have q2:=Zhz [] (fun f hf=>by cases hf) (by decide) FA 0 fc rfl (w.alloc (.cells #[.int .i64 200,.slice FA 0 fc,.slice BA 4 bc] 69)) ⟨rfl,fun h=>by cases h⟩
 have Q1:=Hd q1
 have Q2:=Hd q2
 clear hb q1 q2
 unfold Zdx
 go_enter func117,ntmps117
 go_wp2_with (first
  | (go_at_call 70;refine Q1.out.mono ?_;rintro e w' ⟨rfl,rfl⟩)
  | (go_at_call 74;refine Q2.out.mono ?_;rintro e w' ⟨rfl,hb2⟩;have HB2:=Hd (HB.out.trans (hb2.mono HB.out.size));clear hb2))
 go_ret
 exact⟨rfl,HB2.out⟩
theorem Z1n (w:World):CA 183 #[.int .i64 200] w fun e w'=>e=.returned (.bool false)/\w=w':=by
 go_enter func183,ntmps183
 go_wp2
 go_ret
 exact⟨rfl,rfl⟩
def Zz3 :List UInt8:=[69,68,71,69,47,49,32,50,48,48,13,10,99,111,100,105,110,103,58,32,99,104,117,110,107,101,100,13,10,13,10]
theorem min_100 :(min 100 8000:Int)=100:=by decide
theorem tc1 :ByteArray.mk #[69,68,71,69,47,49,32]++ByteArray.mk #[50,48,48]=⟨#[69,68,71,69,47,49,32,50,48,48]⟩:=by kernel_rfl
theorem tc2 :ByteArray.mk #[69,68,71,69,47,49,32,50,48,48]++ByteArray.mk #[13,10]=⟨#[69,68,71,69,47,49,32,50,48,48,13,10]⟩:=by kernel_rfl
theorem tc3 :ByteArray.mk #[69,68,71,69,47,49,32,50,48,48,13,10]++ByteArray.mk #[]=⟨#[69,68,71,69,47,49,32,50,48,48,13,10]⟩:=by kernel_rfl
theorem tc4 :ByteArray.mk #[69,68,71,69,47,49,32,50,48,48,13,10]++ByteArray.mk #[99,111,100,105,110,103,58,32,99,104,117,110,107,101,100]=⟨#[69,68,71,69,47,49,32,50,48,48,13,10,99,111,100,105,110,103,58,32,99,104,117,110,107,101,100]⟩:=by kernel_rfl
theorem tc5 :ByteArray.mk #[69,68,71,69,47,49,32,50,48,48,13,10,99,111,100,105,110,103,58,32,99,104,117,110,107,101,100]++ByteArray.mk #[13,10]=⟨#[69,68,71,69,47,49,32,50,48,48,13,10,99,111,100,105,110,103,58,32,99,104,117,110,107,101,100,13,10]⟩:=by kernel_rfl
theorem tc6 :ByteArray.mk #[69,68,71,69,47,49,32,50,48,48,13,10,99,111,100,105,110,103,58,32,99,104,117,110,107,101,100,13,10]++ByteArray.mk #[13,10]=⟨#[69,68,71,69,47,49,32,50,48,48,13,10,99,111,100,105,110,103,58,32,99,104,117,110,107,101,100,13,10,13,10]⟩:=by kernel_rfl
theorem Zod (w:World)(hP:Pow w):CA 28 #[.int .i64 200] w fun e w'=>e=.returned (.string ⟨#[50,48,48]⟩)/\Below w.heap.size w w':=by
 have h:=Zgz 200 (by decide) w hP
 have e:Lib.decDigits 200=[50,48,48]:=by kernel_rfl
 rw[e]at h
 exact h
theorem lines_0 (c:Nat)(w:World):CA 27 #[.slice none 0 c] w fun e w'=>e=.returned (.string ⟨#[]⟩)/\Below w.heap.size w w':=
 Zp4 [] ⟨by decide,by intro f hf;cases hf⟩ none 0 c rfl w Zab.none_
theorem tl_tell {w w0:World}{F:List Zae}{io bg bo bc:Nat}(hP:Pow w0)(hD:DeB w0)(hio:F[io]? =some (Zel w0))(hR:RdIn F ⟨bg,bo,none⟩ Zb6)(hbc:4<=bc)(h:Sep w F):
  CA 64 #[.agg (Zdx 200 (.slice none 0 0) (.slice (some ⟨bg,bo,none⟩) 4 bc)),.int .i64 100] w fun e w'=>∃b o c,e=.returned (.tuple #[.slice (some ⟨b,o,none⟩) 45 c,.nilIface])/\45<=c/\Sep w' (Zir ⟨b,o,none⟩ Zku::F):=by
 have h0:=h.newBlk 69 (Zdx 200 (.slice none 0 0) (.slice (some ⟨bg,bo,none⟩) 4 bc))
 obtain⟨W,hW⟩:=exl (w.alloc (.cells (Zdx 200 (.slice none 0 0) (.slice (some ⟨bg,bo,none⟩) 4 bc)) 69))
 rw[hW]at h0
 have kG:=h0.at_ (i:=0) rfl
 unfold Zdx at kG hW
 have H0:=Hd h0
 have HC:=Hd (show CA 117 #[.agg #[.int .i64 200,.slice none 0 0,.slice (some ⟨bg,bo,none⟩) 4 bc],.int .i64 100] W fun e w'=>e=.returned .nilIface/\Below W.heap.size W w' from ct_ok 100 none 0 (some ⟨bg,bo,none⟩) bc W)
 clear h h0
 unfold Zdx
 go_enter func64,ntmps64
 go_wp2_with fail
 refine Mo HC ?_
 rintro e w1 ⟨rfl,hb1⟩
 have h1:=H0.out.below hb1
 have H1:=Hd h1
 clear kG hb1 hW HC H0 h1
 have HZ:=Hd (show∀w',Below w1.heap.size w1 w'->w'.cell? ⟨w.heap.size,0,none⟩=some (.int .i64 200)/\w'.cell? ⟨w.heap.size,1,none⟩=some (.slice none 0 0)/\Pow w' from fun w' hb=>by
  have h2:=H1.out.below hb
  have k:=h2.at_ (i:=0) rfl
  exact⟨k.1 0,k.1 1,hP.next (h2.old (i:=io+1) hio)⟩)
 go_wp2_with fail
 have e1:=tc1
 have e2:=tc2
 have e3:=tc3
 refine Zd3 (fun w'=>Below w1.heap.size w1 w') (by kernel_rfl) (by kernel_rfl) ?_ fun hne=> ?_
 ·exact(Below.refl _ _).drew
 have z0:∀x:WIn (fun w'=>Below w1.heap.size w1 w'),x.w.cell? ⟨w.heap.size,0,none⟩=some (.int .i64 200):=fun x=>(HZ.out _ x.h).1
 have z1:∀x:WIn (fun w'=>Below w1.heap.size w1 w'),x.w.cell? ⟨w.heap.size,1,none⟩=some (.slice none 0 0):=fun x=>(HZ.out _ x.h).2.1
 repeat (first | go_big_quiet_skip | (go_big_quiet_want;go_big_quiet_op;go_big_quiet_on))
 go_big_quiet_want
 go_big_quiet_op
 refine⟨_,fun x=>Zcg (Zod _ (HZ.out _ x.h).2.2) (fun e w9 h9=>⟨h9.1,x.h.trans (h9.2.mono x.h.size)⟩),?_⟩
 go_big_quiet_on
 repeat (first | go_big_quiet_skip | (go_big_quiet_want;go_big_quiet_op;go_big_quiet_on))
 go_big_quiet_want
 go_big_quiet_op
 refine⟨_,fun x=>Zcg (lines_0 _ _) (fun e w9 h9=>⟨h9.1,x.h.trans (h9.2.mono x.h.size)⟩),?_⟩
 go_big_quiet_on
 repeat (first | go_big_quiet_skip | (go_big_quiet_want;go_big_quiet_op;go_big_quiet_on))
 refine wpQuiet_nil ?_
 intro w9 hw9
 obtain⟨x,rfl⟩:=hw9
 obtain⟨w2,hb2⟩:=x
 simp only
 clear z0 z1 hne HZ
 have h2:=H1.out.below hb2
 have kG:=h2.at_ (i:=0) rfl
 have H2:=Hd h2
 have hm:=min_100
 unfold Zdx at kG
 clear hb2 H1 h2
 go_wp2_with fail
 refine(Z1d (F:=Zaa w.heap.size 69 (Zdx 200 (.slice none 0 0) (.slice (some ⟨bg,bo,none⟩) 4 bc))::F) (io:=io+1) hD hio (fun W hW=>hR W hW.tail) hbc H2.out).mono ?_
 rintro e w3 ⟨A,c,rfl,h3⟩
 have H3:=Hd h3
 have e4:=tc4
 have e5:=tc5
 have e6:=tc6
 obtain⟨cc,W5,hcv,hb5,v5,W6,hap,hfin⟩:=Zdj 23 w3 Zz3 A c Zln (Zag h3 (i:=0) rfl) (by decide)
 rw[show Zz3.length=31 from rfl]at hcv
 unfold Zz3 at hcv
 have HFIN:=Hd hfin
 have HAP:=Hd hap
 clear H2 kG h3 hb5 hap hfin
 go_wp2_with (at_builtin;refine wpList_append_run rfl _ _ _ rfl _ _ rfl rfl v5 W6 HAP.out ?_)
 go_ret2
 obtain⟨ad,cq,rfl,hcq,hs⟩:=(H3.out.tail.tail).newByt HFIN.out
 obtain⟨b,o,e,-,-⟩:=(hs.byt (i:=0) rfl).form (by decide)
 cases e
 exact⟨b,o,cq,rfl,hcq,hs⟩
def Zic :List UInt8:=[133,71,1,52]
def Zn2 :List Fld:=[([58,99,111,100,101],[50,48,48]),([108,101,110,103,116,104],[52])]
theorem Zyv :heard 4096 [] 4096 [] Zic=⟨0,[([108,101,110,103,116,104],[52])],4096,Zn2,0⟩:=by kernel_rfl
theorem Z09 {w:World}{F:List Zae}{kb C M X gg hh mc bc:Nat}{BA:Option Addr}{ord inn out part q:Value}{win last on nw:Int}{ends:Bool}
  (h:Sep w (Zad 5 1 (.slice BA 4 bc) 4 (bs Zic)::Zaa kb 126 (Zau C M ord inn out win last part on ends)::Zak M (Zaw (.pointer (some ⟨X,0,none⟩))) mc::Zaa X 130 (Zay nw q false (.slice none 0 0) false (.slice none 0 0) false)::Zaa C 93 (Zai gg hh)::Zbw hh none 0 [] 4096::F)):
  CA 245 #[.pointer (some ⟨kb,0,none⟩),.agg #[.int .i64 1,.int .i64 4,.int .i64 1,.slice BA 4 bc]] w fun e w'=>e=.returned (.bool true)/\∃D dc P,Sep w' (Zaa kb 126 (Zau C M ord inn out win last P 0 false)::Zak M (Zaw (.pointer (some ⟨X,0,none⟩))) mc::
   Zaa X 130 (Zay nw q false (.slice D 2 dc) true (.slice none 0 0) false)::Zad 41 2 (.slice D 2 dc) 2 (fvs Zn2)::F):=by
 have h1:=h.newBlk 134 #[.int .i64 1,.int .i64 4,.int .i64 1,.slice BA 4 bc]
 have kX:=h1.at_ (i:=0) rfl
 have HO:=Hd (Z04 h1 (i:=2) (j:=3) (k:=4) rfl rfl rfl)
 have b41:(bits .and .i64 4 1 !=0)=false:=by decide
 have b44:(bits .and .i64 4 4==0)=false:=by decide
 clear h h1
 go_enter func245,ntmps245
 go_wp2_with fail
 refine Mo HO ?_
 rintro e w2 ⟨rfl,h2⟩
 clear kX HO
 have kX:=h2.at_ (i:=0) rfl
 have kK:=h2.at_ (i:=2) rfl
 have n1:=h2.ne_ (i:=2) (i':=0) rfl rfl (by decide)
 have n2:=Ne.symm n1
 have H2:=Hd h2
 unfold Zau at kK
 clear h2
 go_wp2_with fail
 go_region
 obtain⟨w3,hw3⟩:=exl ((((w2.setCell ⟨kb,9,none⟩ (.int .i64 1)).setCell ⟨kb,10,none⟩ (.bool false)).setCell ⟨kb,8,none⟩ (.slice none 0 0)).drew)
 have h3:=(((H2.out.set_ (i:=2) rfl 9 (.int .i64 1)).set_ (i:=2) rfl 10 (.bool false)).set_ (i:=2) rfl 8 (.slice none 0 0)).drew
 rw[hw3]at h3⊢
 change Sep w3 (_::_::Zaa kb _ (Zau C M ord inn out win last (.slice none 0 0) 1 false)::_)at h3
 have h4:=h3.nilRow 5 1
 clear kX kK n1 n2 H2 hw3 h3
 have kX:=h4.at_ (i:=1) rfl
 have kK:=h4.at_ (i:=3) rfl
 have n1:=h4.ne_ (i:=3) (i':=1) rfl rfl (by decide)
 have n2:=Ne.symm n1
 have HR:=Hd (Zag h4.drew (i:=2) rfl)
 have H4:=Hd h4.drew
 unfold Zau at kK
 clear h4
 go_wp2
 go_region_law (refine Zcq rfl _ _ 23 5 rfl underlying23 Zbz rfl (by decide) (by decide) _ 0 [] H4.out (i:=0) rfl (by simp[Act.eval,Act.put]) BA 4 bc (bs Zic) HR.out (Zcj _) (by simp[Act.eval,Act.put]) (by decide) ?_;intro A5 c5 w5 h5 _;have kX5:=h5.at_ (i:=1) rfl;have kK5:=h5.at_ (i:=3) rfl;have H5:=Hd h5;unfold Zau at kK5;clear h5)
 all_goals
  go_wp2_with fail
  obtain⟨w6,hw6⟩:=exl ((w5.setCell ⟨kb,8,none⟩ (.slice A5 4 c5)).setCell ⟨kb,9,none⟩ (.int .i64 0))
  have h6:=(H5.out.set_ (i:=3) rfl 8 (.slice A5 4 c5)).set_ (i:=3) rfl 9 (.int .i64 0)
  rw[hw6]at h6⊢
  change Sep w6 (Zad _ 1 (.slice A5 4 c5) 4 (bs Zic)::_::_::Zaa kb _ (Zau C M ord inn out win last (.slice A5 4 c5) 0 false)::_)at h6
  clear kX kX5 kK kK5 n1 n2 HR H4 H5 hw6
  have kK:=h6.at_ (i:=3) rfl
  have H6:=Hd ((h6.drew.front 7 rfl).front 7 rfl)
  unfold Zau at kK
  clear h6
  go_region_held3 (fun w'=>w'.cell? ⟨kb,0,none⟩=some (.pointer (some ⟨C,0,none⟩))/\w'.cell? ⟨kb,8,none⟩=some (.slice A5 4 c5)) (first | exact⟨kK.1 0,kK.1 8⟩ | exact⟨kK7.1 0,kK7.1 8⟩ | go_keep)
   (first | (go_at_call 11;refine(Zmq H6.out Zic A5 4 c5 0 rfl (by decide) (by decide) rfl _ _ Zn2 Zyv).mono ?_;rintro e w7 ⟨D,n7,dc,rfl,rfl,h7⟩;have kK7:=h7.at_ (i:=5) rfl;have kX7:=h7.at_ (i:=7) rfl;have n3:=h7.ne_ (i:=5) (i':=7) rfl rfl (by decide);have n4:=Ne.symm n3;have H7:=Hd h7;unfold Zau at kK7;unfold Zay at kX7;clear h7))
  go_wp2
  go_ret
  have h8:=((H7.out.set_ (i:=7) rfl 3 (.slice D 2 dc)).set_ (i:=7) rfl 4 (.bool true)).set_ (i:=7) rfl 6 (.bool false)
  exact⟨rfl,D,dc,_,((((((h8.drop_ 1).drop_ 1).drop_ 1).drop_ 1).front 3 rfl).front 3 rfl).front 3 rfl⟩
end
end Go.Proofs.YtbgnggkgmeagkaaGreatDoor
