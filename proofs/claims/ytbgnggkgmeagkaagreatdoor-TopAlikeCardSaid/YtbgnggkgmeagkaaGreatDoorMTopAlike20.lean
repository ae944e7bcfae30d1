/-
  A part of the proof of TopAlike: each theorem states its own conditions.
-/
import Derived.Test.YtbgnggkgmeagkaaGreatDoorMTopAlike19
import Derived.Test.YtbgnggkgmeagkaaGreatDoorMTopAlike12
set_option linter.unusedSimpArgs false
set_option linter.unusedVariables false
set_option maxRecDepth 100000
set_option maxHeartbeats 16000000
namespace Go.Proofs.YtbgnggkgmeagkaaGreatDoor
open Go.Proofs.Tryz
section
open Go.RowKit Go.Shelf
def Zd0 (fl body:Value)(m p ho fa ba:Value)(at_:Int):Array Value:= #[fl,body,.bool false,m,p,ho,fa,ba,.int .i64 at_]
def Zdl (fl body:Value):Array Value:=Zd0 fl body (.string ⟨#[]⟩) (.string ⟨#[]⟩) (.string ⟨#[]⟩) (.slice none 0 0) (.slice none 0 0) 0
theorem Zx1 {w:World}{L:List Zae}{M X:Nat}{a b c:Zae}(h:Sep w (a::b::c::Zak M #[] 0::L)):(Instr.mapUpdate 116 (.map (some M)) (.int .i64 1) (.pointer (some ⟨X,0,none⟩))).run prog w=.ok () (putM w M (Zaw (.pointer (some ⟨X,0,none⟩))) 1):=
 Za9 (P:=prog) (t:=116) (k:=.int .i64 1) underlying116 underlying3 rfl (h.map_ (i:=3) rfl) (by rfl) (.pointer (some ⟨X,0,none⟩))
theorem ge_asked {w:World}{F:List Zae}{g kb Li St CM JM fn fc:Nat}{FA:Option Addr}{R log:Value}{last:Int}(h:Sep w (Zaa g 120 (Za7 kb R Li St CM JM last log)::Zak CM #[] 0::F)):
  CA 112 #[.pointer (some ⟨g,0,none⟩),.agg (evV 1 1 0 (.slice FA fn fc) (.slice none 0 0) false)] w fun e w'=>e=.returned (.tuple #[])/\∃Y,Sep w' (Zaa Y 146 (Zdl (.slice FA fn fc) (.slice none 0 0))::Zaa g 120 (Za7 kb R Li St CM JM last log)::Zak CM (Zaw (.pointer (some ⟨Y,0,none⟩))) 1::F):=by
 have h1:=h.newBlk 215 (evV 1 1 0 (.slice FA fn fc) (.slice none 0 0) false)
 unfold evV at h1
 have kX:=h1.at_ (i:=0) rfl
 have kG:=h1.at_ (i:=1) rfl
 have ql:=Zca (P:=prog) (t:=116) (k:=.int .i64 1) underlying116 underlying3 rfl (h1.drew.map_ (i:=2) rfl) (by rfl) (z:=.pointer none) (by kernel_rfl) false
 have H1:=Hd h1
 unfold Za7 at kG
 clear h h1
 unfold evV
 go_enter func112,ntmps112
 go_wp2
 go_region
 obtain⟨w2,hw2⟩:=exl ((w.alloc (.cells #[.int .i64 1,.int .i64 1,.int .i64 0,.slice FA fn fc,.slice none 0 0,.bool false] 215)).drew)
 have h2:=H1.out.drew
 rw[hw2]at h2⊢
 clear kX kG ql H1 hw2
 have kX:=h2.at_ (i:=0) rfl
 have kG:=h2.at_ (i:=1) rfl
 have h3:=(h2.newBlk 146 (Zdl (.slice FA fn fc) (.slice none 0 0))).drew
 unfold Zdl Zd0 at h3
 have qm:=Zx1 (X:=w2.heap.size) h3
 have h4:=h3.putMap (i:=3) (c':=1) (es':=Zaw (.pointer (some ⟨w2.heap.size,0,none⟩))) rfl
 have kX4:=h4.at_ (i:=1) rfl
 have H4:=Hd h4
 unfold Za7 at kG
 clear h2 h3 h4
 go_wp2
 go_region
 go_wp2
 refine bodyPost_end (results_none rfl _ _ _) rfl ?_
 exact⟨rfl,_,H4.out.drop_ 1⟩
theorem vg_put {w:World}{L:List Zae}{M X j:Nat}{gl:List (Int×Value)}{id:Int}(h:Sep w L)(hj:L[j]? =some (Zan Zat M gl))(hv:Za8 gl id=none):∃es c,(Instr.mapUpdate 116 (.map (some M)) (.int .i64 id) (.pointer (some ⟨X,0,none⟩))).run prog w=.ok () (putM w M es c)/\Hid (Sep (putM w M es c) (L.set j (Zan Zat M (gl++[(id,ptr X)])))):=by
 obtain⟨es,c,h1,h2⟩:=h.updN (P:=prog) (t:=116) Zja hj underlying116 underlying3 hv (ptr X)
 exact⟨es,c,h1,Hd h2⟩
theorem Zty {w:World}{F:List Zae}{g kb Li St CM JM fn fc:Nat}{FA:Option Addr}{R log:Value}{last id:Int}{gl:List (Int×Value)}(hv:Za8 gl id=none)(h:Sep w (Zaa g 120 (Za7 kb R Li St CM JM last log)::Zan Zat CM gl::F)):
  CA 112 #[.pointer (some ⟨g,0,none⟩),.agg (evV 1 id 0 (.slice FA fn fc) (.slice none 0 0) false)] w fun e w'=>e=.returned (.tuple #[])/\∃Y,Sep w' (Zaa Y 146 (Zdl (.slice FA fn fc) (.slice none 0 0))::Zaa g 120 (Za7 kb R Li St CM JM last log)::Zan Zat CM (gl++[(id,ptr Y)])::F):=by
 have h1:=h.newBlk 215 (evV 1 id 0 (.slice FA fn fc) (.slice none 0 0) false)
 unfold evV at h1
 have kX:=h1.at_ (i:=0) rfl
 have kG:=h1.at_ (i:=1) rfl
 have ql:=h1.drew.lookN (P:=prog) (t:=116) Zja (i:=2) rfl underlying116 underlying3 hv (z:=.pointer none) (by kernel_rfl) false
 change(Instr.lookup _ _ (.int .i64 id) _).run _ _=_ at ql
 have H1:=Hd h1
 have HV:=Hd hv
 unfold Za7 at kG
 clear h h1 hv
 unfold evV
 go_enter func112,ntmps112
 go_wp2
 go_region
 obtain⟨w2,hw2⟩:=exl ((w.alloc (.cells #[.int .i64 1,.int .i64 id,.int .i64 0,.slice FA fn fc,.slice none 0 0,.bool false] 215)).drew)
 have h2:=H1.out.drew
 rw[hw2]at h2⊢
 clear kX kG ql H1 hw2
 have kX:=h2.at_ (i:=0) rfl
 have kG:=h2.at_ (i:=1) rfl
 have h3:=(h2.newBlk 146 (Zdl (.slice FA fn fc) (.slice none 0 0))).drew
 unfold Zdl Zd0 at h3
 obtain⟨es,c,qm,H4⟩:=vg_put (X:=w2.heap.size) h3 (j:=3) rfl HV.out
 have kX4:=H4.out.at_ (i:=1) rfl
 unfold Za7 at kG
 clear h2 h3
 go_wp2
 go_region
 go_wp2
 refine bodyPost_end (results_none rfl _ _ _) rfl ?_
 exact⟨rfl,_,H4.out.drop_ 1⟩
theorem Zxy {w:World}{F:List Zae}{g kb Li St CM JM fn fc:Nat}{FA:Option Addr}{R log:Value}{last id:Int}{gl:List (Int×Value)}{Q:World->Prop}(hv:Za8 gl id=none)(h:Sep w (Zaa g 120 (Za7 kb R Li St CM JM last log)::Zan Zat CM gl::F))
  (hQ:∀w2 Y,Sep w2 (Zaa Y 146 (Zdl (.slice FA fn fc) (.slice none 0 0))::Zaa g 120 (Za7 kb R Li St CM JM last log)::Zan Zat CM (gl++[(id,ptr Y)])::F)->CA 167 #[.pointer (some ⟨g,0,none⟩),.int .i64 id] w2 fun e w'=>e=.returned (.tuple #[])/\Q w'):
  CA 112 #[.pointer (some ⟨g,0,none⟩),.agg (evV 1 id 0 (.slice FA fn fc) (.slice none 0 0) true)] w fun e w'=>e=.returned (.tuple #[])/\Q w':=by
 have h1:=h.newBlk 215 (evV 1 id 0 (.slice FA fn fc) (.slice none 0 0) true)
 unfold evV at h1
 have kX:=h1.at_ (i:=0) rfl
 have kG:=h1.at_ (i:=1) rfl
 have ql:=h1.drew.lookN (P:=prog) (t:=116) Zja (i:=2) rfl underlying116 underlying3 hv (z:=.pointer none) (by kernel_rfl) false
 change(Instr.lookup _ _ (.int .i64 id) _).run _ _=_ at ql
 have H1:=Hd h1
 have HV:=Hd hv
 have HQ:=Hd hQ
 unfold Za7 at kG
 clear h h1 hv hQ
 unfold evV
 go_enter func112,ntmps112
 go_wp2
 go_region
 obtain⟨w2,hw2⟩:=exl ((w.alloc (.cells #[.int .i64 1,.int .i64 id,.int .i64 0,.slice FA fn fc,.slice none 0 0,.bool true] 215)).drew)
 have h2:=H1.out.drew
 rw[hw2]at h2⊢
 clear kX kG ql H1 hw2
 have kX:=h2.at_ (i:=0) rfl
 have kG:=h2.at_ (i:=1) rfl
 have h3:=(h2.newBlk 146 (Zdl (.slice FA fn fc) (.slice none 0 0))).drew
 unfold Zdl Zd0 at h3
 obtain⟨es,c,qm,H4⟩:=vg_put (X:=w2.heap.size) h3 (j:=3) rfl HV.out
 have kX4:=H4.out.at_ (i:=1) rfl
 unfold Za7 at kG
 clear h2 h3
 go_wp2
 go_region
 obtain⟨w5,hw5⟩:=exl (putM ((w2.alloc (.cells (Zdl (.slice FA fn fc) (.slice none 0 0)) 146)).drew) CM es c)
 unfold Zdl Zd0 at hw5
 rw[hw5]at H4 kX4⊢
 have H5:=Hd (show Sep w5 _ from H4.out.drop_ 1)
 clear H4 hw5 kX kG qm
 go_wp2_with fail
 refine(HQ.out _ _ H5.out).mono ?_
 rintro e w6 ⟨rfl,hq⟩
 go_wp2
 refine bodyPost_end (results_none rfl _ _ _) rfl ?_
 exact⟨rfl,hq⟩
theorem rt_fits (w:World):
  CA 316 #[.agg #[.string ⟨#[]⟩,.string ⟨#[47]⟩,.string ⟨#[97,108,108]⟩],.string ⟨#[104]⟩,.string ⟨#[47,112]⟩] w fun e w'=>e=.returned (.bool true)/\Below w.heap.size w w':=by
 have q1:=Tryz.strings_CutPrefix ⟨#[47,112]⟩ ⟨#[47]⟩ (w.alloc (.cells #[.string ⟨#[]⟩,.string ⟨#[47]⟩,.string ⟨#[97,108,108]⟩] 47))
 have e1:Lib.trimPrefix [47,112] [47]=[112]:=by decide
 have e2:Lib.hasPrefix [47,112] [47]=true:=by decide
 have Q1:=Hd q1
 have HB:=Hd ((Below.refl w.heap.size w).alloc (Nat.le_refl _) (.cells #[.string ⟨#[]⟩,.string ⟨#[47]⟩,.string ⟨#[97,108,108]⟩] 47))
 clear q1
 go_enter func316,ntmps316
 go_wp2_with (go_at_call 174;refine Q1.out.mono ?_;rintro e w' ⟨rfl,rfl⟩;simp only[e1,e2])
 go_wp2
 go_ret
 exact⟨by kernel_rfl,HB.out⟩
theorem rt_row {w:World}{L:List Zae}{i c:Nat}{A:Option Addr}(h:Sep w L)(hi:L[i]? =some (Zad 47 3 (.slice A 1 c) 1 rtV)):∃g,A=some ⟨g,0,none⟩/\Zrg w g/\1<=c:=by
 obtain⟨h1,h2⟩:=h.row hi
 rcases h2 with⟨h3,h4⟩ | ⟨g,cap,cur,hv,_,hg,hc,_,hcs,ht⟩
 ·cases h4
 ·cases hv
  have hcell:∀j u,rtV[j]? =some u->w.cell? ⟨g,j,none⟩=some u:=by
   intro j u hj
   rw[Blk.cell (t:=47) (cs:=cur) hg j]
   rw[<-ht,List.getElem?_take]at hj
   split at hj
   ·simpa using hj
   ·cases hj
  exact⟨g,rfl,⟨hcell 0 _ rfl,hcell 1 _ rfl,hcell 2 _ rfl⟩,hc⟩
theorem rt_find (g c:Nat)(hc:1<=c)(w:World)(h:Zrg w g):
  CA 287 #[.slice (some ⟨g,0,none⟩) 1 c,.string ⟨#[104]⟩,.string ⟨#[47,112]⟩] w fun e w'=>e=.returned (.tuple #[.int .i64 0,.nilIface])/\Below w.heap.size w w':=by
 have HC:=Hd (Zt9 g c hc w h)
 have HR:=Hd h
 clear h
 go_enter func287,ntmps287
 go_wp2_with fail
 refine Mo HC ?_
 rintro e w1 ⟨rfl,hb1⟩
 obtain⟨c0,c1,c2⟩:=HR.out.below hb1
 have hgl:=World.block_lt_of_cell? w1 _ c0
 have HB:=Hd hb1
 clear hb1
 go_wp2
 refine wp_loop_rounds 2 ?_
 rw[rounds_succ]
 go_wp2
 obtain⟨W,hW⟩:=exl (w1.alloc (.cells #[.string ⟨#[]⟩,.string ⟨#[47]⟩,.string ⟨#[97,108,108]⟩] 47))
 have kX:=Blk.new w1 47 #[.string ⟨#[]⟩,.string ⟨#[47]⟩,.string ⟨#[97,108,108]⟩]
 have hbW:Below w.heap.size w W:=by rw[<-hW];exact HB.out.trans (((Below.refl _ w1).alloc (Nat.le_refl _) _).mono HB.out.size)
 rw[hW]at kX⊢
 have HKX:=Hd kX
 have HBW:=Hd hbW
 clear hW kX hbW c0 c1 c2 hgl
 refine Zd3 (fun w'=>Below W.heap.size W w') (by kernel_rfl) (by kernel_rfl) ?_ fun hne=> ?_
 ·exact(Below.refl _ _).drew
 have z0:∀x:WIn (fun w'=>Below W.heap.size W w'),x.w.cell? ⟨w1.heap.size,0,none⟩=some (.string ⟨#[]⟩):=fun x=>(HKX.out.below x.h HKX.out.lt).cell 0
 have z1:∀x:WIn (fun w'=>Below W.heap.size W w'),x.w.cell? ⟨w1.heap.size,1,none⟩=some (.string ⟨#[47]⟩):=fun x=>(HKX.out.below x.h HKX.out.lt).cell 1
 have z2:∀x:WIn (fun w'=>Below W.heap.size W w'),x.w.cell? ⟨w1.heap.size,2,none⟩=some (.string ⟨#[97,108,108]⟩):=fun x=>(HKX.out.below x.h HKX.out.lt).cell 2
 repeat (first | go_big_quiet_skip | (go_big_quiet_want;go_big_quiet_op;go_big_quiet_on))
 go_big_quiet_want
 go_big_quiet_op
 refine⟨_,fun x=>Zcg (rt_fits x.w) (fun e w9 h9=>⟨h9.1,x.h.trans (h9.2.mono x.h.size)⟩),?_⟩
 go_big_quiet_on
 repeat (first | go_big_quiet_skip | (go_big_quiet_want;go_big_quiet_op;go_big_quiet_on))
 refine wpQuiet_nil ?_
 intro w9 hw9
 obtain⟨x,rfl⟩:=hw9
 obtain⟨w2,hb2⟩:=x
 simp only
 have HB2:=Hd (HBW.out.trans (hb2.mono HBW.out.size))
 clear z0 z1 z2 hne hb2
 go_wp2
 rw[rounds_succ]
 go_wp2
 go_ret2
 exact⟨rfl,HB2.out⟩
theorem rt_rest (g c:Nat)(hc:1<=c)(w:World)(h:Zrg w g):
  CA 232 #[.slice (some ⟨g,0,none⟩) 1 c,.string ⟨#[104]⟩,.string ⟨#[47,112]⟩] w fun e w'=>e=.returned (.tuple #[.string ⟨#[97,108,108]⟩,.string ⟨#[47,112]⟩,.nilIface])/\Below w.heap.size w w':=by
 have HF:=Hd (rt_find g c hc w h)
 have HR:=Hd h
 have e1:Lib.trimPrefix [47,112] [47]=[112]:=by decide
 have e2:Lib.hasPrefix [112] [47]=false:=by decide
 have e3:ByteArray.mk #[47]++ByteArray.mk #[112]=ByteArray.mk #[47,112]:=by kernel_rfl
 clear h
 go_enter func232,ntmps232
 go_wp2_with fail
 refine Mo HF ?_
 rintro e w1 ⟨rfl,hb1⟩
 obtain⟨c0,c1,c2⟩:=HR.out.below hb1
 have hgl:=World.block_lt_of_cell? w1 _ c0
 have HB:=Hd hb1
 have Q1:=Hd (Tryz.strings_TrimPrefix ⟨#[47,112]⟩ ⟨#[47]⟩ w1)
 have Q2:=Hd (Tryz.strings_HasPrefix ⟨#[112]⟩ ⟨#[47]⟩ w1)
 clear hb1
 go_wp2_with (first
  | (go_at_call 288;refine Q1.out.mono ?_;rintro e w' ⟨rfl,rfl⟩;simp only[e1])
  | (go_at_call 98;refine Q2.out.mono ?_;rintro e w' ⟨rfl,rfl⟩;simp only[e2]))
 go_ret3
 exact⟨rfl,HB.out⟩
theorem cl_open {w:World}{L:List Zae}{i kb C M:Nat}{ord inn out part:Value}{win on:Int}{ends:Bool}(h:Sep w L)(hi:L[i]? =some (Zaa kb 126 (Zau C M ord inn out win (-1) part on ends))):
  CA 56 #[.pointer (some ⟨kb,0,none⟩)] w fun e w'=>e=.returned (.slice none 0 0)/\w=w':=by
 have kK:=h.at_ hi
 unfold Zau at kK
 clear h hi
 go_enter func56,ntmps56
 go_wp2
 refine wp_loop_rounds 1 ?_
 rw[rounds_succ]
 go_wp2
 go_ret
 exact⟨rfl,rfl⟩
theorem Z00 {w:World}{F:List Zae}{kb C M oc:Nat}{OA:Option Addr}{inn out part:Value}{win last on:Int}{ends:Bool}(h:Sep w (Zaa kb 126 (Zau C M (.slice OA 0 oc) inn out win last part on ends)::F)):
  CA 58 #[.pointer (some ⟨kb,0,none⟩)] w fun e w'=>e=.returned (.tuple #[])/\Sep w' (Zaa kb 126 (Zau C M (.slice OA 0 oc) inn out win last part on ends)::F):=by
 have h1:=h.newBlk 52 #[.pointer (some ⟨kb,0,none⟩)]
 have kX:=h1.at_ (i:=0) rfl
 have kK:=h1.at_ (i:=1) rfl
 have n1:kb≠w.heap.size:=h1.ne_ (i:=1) (i':=0) rfl rfl (by decide)
 have H1:=Hd h1.drew
 unfold Zau at kK
 clear h h1
 go_enter func58,ntmps58
 go_wp2
 refine wp_loop_rounds 1 ?_
 rw[rounds_succ]
 go_wp2
 go_region_with (go_at_call 108;refine(Zu7 _ _ _ _).mono ?_;rintro e w8 ⟨rfl,rfl⟩)
 all_goals
  go_wp2
  refine bodyPost_end (results_none rfl _ _ _) rfl ?_
  refine⟨rfl,?_⟩
  have h9:=H1.out.set_ (i:=1) rfl 2 (.slice OA 0 oc)
  exact h9.drop_ 0
def defA (D:Nat):Zae:=⟨fun k=>k=D,fun w=>w.heap[D]? =some (.deferred (some [])),fun _ _ _ hk hS hl h=>(hk.block D (hl D rfl) (hS D rfl)).trans h⟩
theorem Sep.newDef {w W:World}{L:List Zae}{D:Nat}(h:Sep w L)(hb:Below w.heap.size w W)(hD:w.heap.size<=D)(ho:W.heap[D]? =some (.deferred (some []))):Sep W (defA D::L):=
 h.new hb ho (by rintro k rfl;exact⟨hD,(Array.getElem?_eq_some_iff.1 ho).1⟩)
theorem Sep.shut {w:World}{L:List Zae}{D:Nat}(h:Sep w (defA D::L))(o:Obj):Sep (w.putObj D o) L:=by
 have hg:=grownBy_putObj' w D o
 refine h.tail.kept (S:=fun k=>k=D) ⟨hg.os,hg.tape,hg.output,hg.size,fun k hk hn=>hg.block k hk (fun e=>hn (by cases e;rfl))⟩ ?_
 intro a ha k hk hkD
 exact(List.pairwise_cons.1 h.apart).1 a ha D rfl (by subst hkD;exact hk)
theorem Sep.def_ {w:World}{L:List Zae}{D i:Nat}(h:Sep w L)(hi:L[i]? =some (defA D)):w.heap[D]? =some (.deferred (some [])):=h.get hi
theorem Zb8 {F:Fence}{n:Nat}{P:Program}{g:Operand}{ps:Array Tmp}{assign body:Code}{Q:Exit->Act->World->Prop}{a:Act}{w:World}
  (hro:F.round=none) (h1:1<=n) {gf:Nat} {lb:Array Value} (hg:a.eval g=.func (.func gf) #[] lb) (hFg:F.fn gf) (eg:∀args w,(callFunc gf args).run P w=.ok (.enter gf args) w)
  (hit:∀(l:Nat) (W:World),Below w.heap.size w W->CallsIn F (n-1) P gf (#[.func (.yield l) #[] #[]]++lb) W fun e W'=>(∃v,e=.returned v)/\W=W')
  (hdone:∀(D:Nat) (W:World),w.heap.size<=D->Below w.heap.size w W->W.heap[D]? =some (.deferred (some []))->Q .normal {a with defers:={target:=.collected D,args:= #[]}::a.defers} W):
  (Code.rangeFunc g ps assign body).wpIn F n P Q a w:=by
 refine wpIn_rangeFunc ?_
 intro fn hfn
 rw[hro]
 obtain⟨rec,hrec⟩:∃rec:LoopState->Option Code->Loop,rec=fun st pe=>{state:=st,pending:=pe,fn,tmps:=a.tmps,params:=ps,assign,body,defers:=w.heap.size}:=⟨_,rfl⟩
 obtain⟨W1,hW1⟩:=exl ((w.alloc (.deferred (some []))).alloc (.loop (rec .ready none)))
 have hL1:W1.heap[w.heap.size+1]? =some (.loop (rec .ready none)):=by
  rw[<-hW1];have:=World.alloc_heap_new (w.alloc (.deferred (some []))) (.loop (rec .ready none));rwa [World.size_alloc]at this
 have hK1:W1.heap[w.heap.size]? =some (.deferred (some [])):=by
  rw[<-hW1];exact(Below.heap_alloc _ _ _ (by simp)).trans (World.alloc_heap_new w _)
 have hb1:Below w.heap.size w W1:=by
  rw[<-hW1];exact((Below.refl _ w).alloc (Nat.le_refl _) _).alloc (by simp) _
 refine⟨w.heap.size+1,[{target:=.collected w.heap.size,args:= #[]}],W1,{target:=.fn (.func gf) lb,args:= #[.func (.yield (w.heap.size+1)) #[] #[]]},W1,gf,
  #[.func (.yield (w.heap.size+1)) #[] #[]]++lb,W1,?_,?_,?_,?_,fun _=>h1,?_⟩
 ·rw[<-hW1,hrec];exact run_enterLoop_outer _ _ _ _ _
 ·simp only[resolve,hg]
  simp[go_sem]
 ·intro f' hf';simp[Target.leads]at hf';subst hf';exact hFg
 ·simp[invoke,go_sem,eg]
 ·refine(hit _ W1 hb1).mono ?_
  rintro e W2 ⟨⟨v,rfl⟩,rfl⟩
  refine⟨none,_,by have:=run_endLoop (P:=P) hL1 (by rw[hrec];simp);rw[hrec]at this;exact this,hdone _ _ (Nat.le_refl _) ?_ ((World.putObj_heap_other (by omega)).trans hK1)⟩
  exact hb1.grown (grownBy_putObj' _ _ _) hb1.size (fun k e=>by cases e;exact Nat.le_succ _)
theorem Zes {P:Program}{fn:Func}{p:Tmp}{ty:TypeId}{k:IntKind}(h:fn.results= #[.cell p ty])(tmps:Array Value)(w:World)(g:Nat)(v:Value)
  (hp:tmps.getD p undef=.pointer (some ⟨g,0,none⟩)) (hg:w.cell? ⟨g,0,none⟩=some v) (hu:P.underlying ty=some (.int k)):
  (results fn tmps).run P w=.ok v w:=by
 have hp':tmps[p]?.getD undef=.pointer (some ⟨g,0,none⟩):=by simpa using hp
 simp[results,h,hp',asAddr,loadVar,isAgg,run_underlying hu,hg,go_sem]
theorem Zka (w:World)(K F S:Int)(A:Option Addr)(n c:Nat)(z:Int):Below w.heap.size w ((w.alloc (.cells #[.int .i64 K,.int .i64 F,.int .i64 S,.slice A n c] 134)).alloc (.cells #[.int .i64 z] 3))/\
  Blk ((w.alloc (.cells #[.int .i64 K,.int .i64 F,.int .i64 S,.slice A n c] 134)).alloc (.cells #[.int .i64 z] 3)) w.heap.size 134 #[.int .i64 K,.int .i64 F,.int .i64 S,.slice A n c]/\
  Blk ((w.alloc (.cells #[.int .i64 K,.int .i64 F,.int .i64 S,.slice A n c] 134)).alloc (.cells #[.int .i64 z] 3)) (w.heap.size+1) 3 #[.int .i64 z]:=by
 refine⟨((Below.refl w.heap.size w).alloc (Nat.le_refl _) _).alloc (by simp) _,(Blk.new w _ _).alloc _,?_⟩
 have:=Blk.new (w.alloc (.cells #[.int .i64 K,.int .i64 F,.int .i64 S,.slice A n c] 134)) 3 #[.int .i64 z]
 rwa [World.size_alloc]at this
theorem Zkp (K F S:Int)(A:Option Addr)(n c:Nat)(hK:K=0∨K=1∨(K=4/\n=0)∨(K=7/\n=4))(w:World):
  CA 272 #[.agg #[.int .i64 K,.int .i64 F,.int .i64 S,.slice A n c]] w fun e w'=>e=.returned (.bool true)/\Below w.heap.size w w':=by
 rcases hK with rfl | rfl | ⟨rfl,rfl⟩ | ⟨rfl,rfl⟩
 all_goals
  go_enter func272,ntmps272
  go_wp2
  go_ret
  exact⟨rfl,(Below.refl _ _).alloc (Nat.le_refl _) _⟩
theorem Zot (K F:Int)(A:Option Addr)(n c:Nat)(hK:K=0∨K=1)(w:World):
  CA 213 #[.agg #[.int .i64 K,.int .i64 F,.int .i64 1,.slice A n c]] w fun e w'=>e=.returned (.int .i64 0)/\Below w.heap.size w w':=by
 obtain⟨hb0,hX,hY⟩:=Zka w K F 1 A n c 0
 have HZ:=Hd (Zkp K F 1 A n c (by rcases hK with h | h;exact .inl h;exact .inr (.inl h)))
 have HB0:=Hd hb0
 have HX:=Hd hX
 have HY0:=Hd hY
 clear hb0 hX hY
 rcases hK with rfl | rfl
 all_goals
  go_enter func213,ntmps213
  go_wp2_with fail
  refine(HZ.out _).mono ?_
  rintro e w1 ⟨rfl,hb1⟩
  have x1:=HX.out.below hb1 HX.out.lt
  have y1:=HY0.out.below hb1 HY0.out.lt
  have x0:=x1.cell 0
  have x3:=x1.cell 3
  have y0:=y1.cell 0
  have yf:=y1.frozen 0
  have yl:=y1.lt
  have HB:=Hd (HB0.out.trans (hb1.mono HB0.out.size))
  have HY:=Hd (y1.set_ 0 (.int .i64 0))
  clear x1 y1 hb1
  go_wp2
  refine bodyPost_ret (Zes rfl _ _ (w.heap.size+1) (.int .i64 0) rfl (HY.out.cell 0) underlying3) rfl ?_
  exact⟨rfl,HB.out.setCell (p:=⟨w.heap.size+1,0,none⟩) (Nat.le_succ _) _⟩
theorem word4 (A:Option Addr)(n cp:Nat)(hn:n=4)(w:World)(hr:Zab w w.heap.size 1 A 4 (bs [0,0,0,4])):
  CA 219 #[.slice A n cp] w fun e w'=>e=.returned (.int .i64 4)/\Below w.heap.size w w':=by
 subst hn
 obtain⟨bb,off,rfl,hb,hc⟩:=hr.form (by omega)
 have e0:w.cell? ⟨bb,off,none⟩=some (.int .u8 0):=hc 0 _ rfl
 have e1:w.cell? ⟨bb,off+1,none⟩=some (.int .u8 0):=hc 1 _ rfl
 have e2:w.cell? ⟨bb,off+2,none⟩=some (.int .u8 0):=hc 2 _ rfl
 have e3:w.cell? ⟨bb,off+3,none⟩=some (.int .u8 4):=hc 3 _ rfl
 clear hc hr
 go_enter func219,ntmps219
 go_upto_region 1 with fail
 go_quiet (fail)
 go_wp2
 go_ret
 exact⟨rfl,Zhb (Below.refl _ _) _⟩
theorem chk_wide (F:Int)(A:Option Addr)(c:Nat)(w:World)(hr:Zab w w.heap.size 1 A 4 (bs [0,0,0,4])):
  CA 213 #[.agg #[.int .i64 7,.int .i64 F,.int .i64 0,.slice A 4 c]] w fun e w'=>e=.returned (.int .i64 0)/\Below w.heap.size w w':=by
 obtain⟨hb0,hX,hY⟩:=Zka w 7 F 0 A 4 c 0
 have HZ:=Hd (Zkp 7 F 0 A 4 c (.inr (.inr (.inr ⟨rfl,rfl⟩))))
 have HB0:=Hd hb0
 have HX:=Hd hX
 have HY0:=Hd hY
 have HR:=Hd hr
 clear hb0 hX hY hr
 go_enter func213,ntmps213
 go_wp2_with fail
 refine(HZ.out _).mono ?_
 rintro e w1 ⟨rfl,hb1⟩
 have x1:=HX.out.below hb1 HX.out.lt
 have y1:=HY0.out.below hb1 HY0.out.lt
 have x0:=x1.cell 0
 have x3:=x1.cell 3
 have HX1:=Hd x1
 have HY1:=Hd y1
 have hB1:=HB0.out.trans (hb1.mono HB0.out.size)
 have HR1:=Hd ((HR.out.below hB1).more hB1.size)
 have HB1:=Hd hB1
 clear x1 y1 hb1 hB1
 go_wp2_with fail
 refine(word4 A 4 c rfl _ HR1.out).mono ?_
 rintro e w2 ⟨rfl,hb2⟩
 have x1:=HX1.out.below hb2 HX1.out.lt
 have y1:=HY1.out.below hb2 HY1.out.lt
 have hB2:=HB1.out.trans (hb2.mono HB1.out.size)
 have HR2:=Hd ((HR.out.below hB2).more hB2.size)
 have HX2:=Hd x1
 have HY2:=Hd y1
 have HB2:=Hd hB2
 clear x0 x3
 have x0:=x1.cell 0
 have x3:=x1.cell 3
 clear x1 y1 hb2 hB2
 go_wp2_with fail
 refine(word4 A 4 c rfl _ HR2.out).mono ?_
 rintro e w3 ⟨rfl,hb3⟩
 have x1:=HX2.out.below hb3 HX2.out.lt
 have y1:=HY2.out.below hb3 HY2.out.lt
 have hB3:=HB2.out.trans (hb3.mono HB2.out.size)
 clear x0 x3
 have x0:=x1.cell 0
 have x3:=x1.cell 3
 have y0:=y1.cell 0
 have yf:=y1.frozen 0
 have yl:=y1.lt
 have HB:=Hd hB3
 have HY:=Hd (y1.set_ 0 (.int .i64 0))
 clear x1 y1 hb3 hB3
 go_wp2
 refine bodyPost_ret (Zes rfl _ _ (w.heap.size+1) (.int .i64 0) rfl (HY.out.cell 0) underlying3) rfl ?_
 exact⟨rfl,HB.out.setCell (p:=⟨w.heap.size+1,0,none⟩) (Nat.le_succ _) _⟩
theorem Zh0 (F:Fence)(n:Nat)(h81:F.fn 105)(hro:F.round=none)(A:Option Addr)(len cap:Nat)(w:World):
  CallsIn F n prog 105 #[.slice A len cap,.int .i64 6] w fun e w'=>e=.returned (.func (.func 159) #[] #[.pointer (some ⟨w.heap.size,0,none⟩),.pointer (some ⟨w.heap.size+1,0,none⟩)])/\
   w'=(w.alloc (.cells #[.slice A len cap] 23)).alloc (.cells #[.int .i64 6] 3):=by
 refine callsIn_of_wp func105 rfl h81 ?_ hro
 simp only[ntmps105,List.size_toArray,List.length_cons,List.length_nil,Nat.reduceAdd,Nat.reduceSub,Array.replicate_succ,Array.replicate_zero,List.push_toArray,List.append_toArray,List.nil_append,List.cons_append]
 gi_wp2
 go_ret
 exact⟨rfl,rfl⟩
theorem Zri {w1 W:World}{A:Option Addr}{cap l:Nat}(hb:Below (w1.heap.size+2) ((w1.alloc (.cells #[.slice A 0 cap] 23)).alloc (.cells #[.int .i64 6] 3)) W)(n:Nat):
  CallsIn Fence.wide n prog 159 (#[.func (.yield l) #[] #[]]++ #[.pointer (some ⟨w1.heap.size,0,none⟩),.pointer (some ⟨w1.heap.size+1,0,none⟩)]) W fun e W'=>(∃v,e=.returned v)/\W=W':=by
 refine(Zjs Fence.wide n trivial rfl l w1.heap.size (w1.heap.size+1) A cap (fun W'=>W=W') W ?_ rfl).mono ?_
 ·refine(hb.cell (p:=⟨w1.heap.size,0,none⟩) (by show w1.heap.size < w1.heap.size+2;omega)).trans ?_
  exact((Blk.new w1 _ _).alloc _).cell 0
 ·rintro e W' ⟨h1,h2⟩
  exact⟨h1,h2⟩
theorem Zou (F:Int)(A:Option Addr)(c:Nat)(w:World):
  CA 213 #[.agg #[.int .i64 4,.int .i64 F,.int .i64 0,.slice A 0 c]] w fun e w'=>e=.returned (.int .i64 0)/\Below w.heap.size w w':=by
 obtain⟨hb0,hX,hY⟩:=Zka w 4 F 0 A 0 c 0
 have HZ:=Hd (Zkp 4 F 0 A 0 c (.inr (.inr (.inl ⟨rfl,rfl⟩))))
 have HB0:=Hd hb0
 have HX:=Hd hX
 have HY0:=Hd hY
 clear hb0 hX hY
 refine(callsIn_wide (n:=7)).1 ?_
 refine callsIn_of_wp_marks func213 rfl trivial ?_ rfl
 simp only[ntmps213,List.size_toArray,List.length_cons,List.length_nil,Nat.reduceAdd,Nat.reduceSub,Array.replicate_succ,Array.replicate_zero,List.push_toArray,List.append_toArray,List.nil_append,List.cons_append]
 gi_wp2_with (first
  | (refine⟨trivial,?_⟩;gi_at_call 272;refine(callsIn_wide.2 (HZ.out _)).mono ?_;rintro e w1 ⟨rfl,hb1⟩;have x1:=HX.out.below hb1 HX.out.lt;have y1:=HY0.out.below hb1 HY0.out.lt;have x0:=x1.cell 0;have x3:=x1.cell 3;have HY1:=Hd y1;have HB1:=Hd (HB0.out.trans (hb1.mono HB0.out.size));clear x1 y1 hb1)
  | (refine⟨trivial,?_⟩;gi_at_call 105;refine(Zh0 Fence.wide _ trivial rfl _ _ _ _).mono ?_;rintro e w' ⟨rfl,rfl⟩)
  | (refine⟨trivial,?_⟩))
 refine Zb8 rfl (by decide) (gf:=159) (lb:= #[.pointer (some ⟨w1.heap.size,0,none⟩),.pointer (some ⟨w1.heap.size+1,0,none⟩)]) rfl trivial (enters_of func159 (by kernel_rfl) rfl) (fun l W hW=>Zri (by simpa using hW) _) ?_
 intro D W hD hW hK
 have hs2:w1.heap.size+2<=D:=by simpa using hD
 have hbW:Below w1.heap.size w1 W:=(((Below.refl _ w1).alloc (Nat.le_refl _) _).alloc (by simp) _).trans (hW.mono (by simp;omega))
 have hYW:=HY1.out.below hbW HY1.out.lt
 have y0:=hYW.cell 0
 have yf:=hYW.frozen 0
 have yl:=hYW.lt
 have HYW:=Hd (hYW.set_ 0 (.int .i64 0))
 have HBW:=Hd (HB1.out.trans (hbW.mono HB1.out.size))
 have hDn:D≠w.heap.size+1:=by have:=HY1.out.lt;omega
 have HX:Hid ((W.setCell ⟨w.heap.size+1,0,none⟩ (.int .i64 0)).heap[D]? =some (.deferred (some []))):=(Below.heap_setCell W ⟨w.heap.size+1,0,none⟩ (.int .i64 0) D hDn).trans hK
 have HDD:=Hd (show w.heap.size<=D by have:=HB1.out.size;omega)
 clear hD hW hK hs2 hbW hYW hDn x0 x3
 gi_wp2
 refine⟨by simp,.inl ⟨_,_,rfl,run_takeDeferred HX.out,?_⟩⟩
 refine⟨_,Zes rfl _ _ (w.heap.size+1) (.int .i64 0) rfl ((Zdh HX.out _).trans (HYW.out.cell 0)) underlying3,rfl,?_⟩
 exact(HBW.out.setCell (p:=⟨w.heap.size+1,0,none⟩) (Nat.le_succ _) _).trans ((Below.refl w.heap.size _).grown (grownBy_putObj' _ D _) (HBW.out.setCell (p:=⟨w.heap.size+1,0,none⟩) (Nat.le_succ _) _).size (fun k e=>by cases e;exact HDD.out))
theorem sto_time (w:World):CA 120 #[.int .i64 0] w fun e w'=>e=.returned (.bool true)/\w=w':=by
 go_enter func120,ntmps120
 go_wp2
 go_ret
 exact⟨rfl,rfl⟩
theorem Ze8 {P:Program}{w:World}{ty:TypeId}{a:Addr}{v:Value}{d:TypeDesc}(hu:P.underlying ty=some d)(hd:(match d with | .struct _ | .array _ _=>true | _=>false)=false)(hg:w.cell? a=some v):(loadVar ty a).run P w=.ok v w:=by
 cases d <;> first | (cases hd;done) | simp[loadVar,isAgg,run_underlying hu,hg,go_sem]
theorem Zvt {P:Program}{fn:Func}{p1 p2 p3:Tmp}{t1 t2 t3:TypeId}(h:fn.results= #[.cell p1 t1,.cell p2 t2,.cell p3 t3])(tmps:Array Value)(w:World)(g1 g2 g3:Nat)(t:TypeId)(cs:Array Value)(v2 v3:Value)(d d2 d3:TypeDesc)
  (hp1:tmps.getD p1 undef=.pointer (some ⟨g1,0,none⟩)) (hp2:tmps.getD p2 undef=.pointer (some ⟨g2,0,none⟩)) (hp3:tmps.getD p3 undef=.pointer (some ⟨g3,0,none⟩)) (hg:Blk w g1 t cs)
  (hu:P.underlying t1=some d) (hd:(match d with | .struct _ | .array _ _=>true | _=>false)=true) (hi:(P.info? t1).map (·.size)=some cs.size)
  (hu2:P.underlying t2=some d2) (hd2:(match d2 with | .struct _ | .array _ _=>true | _=>false)=false) (h2:w.cell? ⟨g2,0,none⟩=some v2)
  (hu3:P.underlying t3=some d3) (hd3:(match d3 with | .struct _ | .array _ _=>true | _=>false)=false) (h3:w.cell? ⟨g3,0,none⟩=some v3):
  (results fn tmps).run P w=.ok (.tuple #[.agg cs,v2,v3]) w:=by
 have e1:tmps[p1]?.getD undef=.pointer (some ⟨g1,0,none⟩):=by simpa using hp1
 have e2:tmps[p2]?.getD undef=.pointer (some ⟨g2,0,none⟩):=by simpa using hp2
 have e3:tmps[p3]?.getD undef=.pointer (some ⟨g3,0,none⟩):=by simpa using hp3
 simp[results,h,e1,e2,e3,asAddr,run_loadVar_row w g1 t t1 cs (0,0) d hg hu hd hi,Ze8 hu2 hd2 h2,Ze8 hu3 hd3 h3]
theorem Zia {a b c:Value}:(prog.info? 69).map (·.size)=some (#[a,b,c]:Array Value).size:=by kernel_rfl
theorem back_new (F:Fence)(n:Nat)(h81:F.fn 289)(hro:F.round=none)(A:Option Addr)(len cap:Nat)(w:World):
  CallsIn F n prog 289 #[.slice A len cap] w fun e w'=>e=.returned (.func (.func 318) #[] #[.pointer (some ⟨w.heap.size,0,none⟩)])/\
   w'=w.alloc (.cells #[.slice A len cap] 201):=by
 refine callsIn_of_wp func289 rfl h81 ?_ hro
 simp only[ntmps289,List.size_toArray,List.length_cons,List.length_nil,Nat.reduceAdd,Nat.reduceSub,Array.replicate_succ,Array.replicate_zero,List.push_toArray,List.append_toArray,List.nil_append,List.cons_append]
 gi_wp2
 go_ret
 exact⟨rfl,rfl⟩
theorem back_nil {W:World}{B l n:Nat}(hs:W.cell? ⟨B,0,none⟩=some (.slice none 0 0)):
  CallsIn Fence.wide n prog 318 (#[.func (.yield l) #[] #[]]++ #[.pointer (some ⟨B,0,none⟩)]) W fun e W'=>(∃v,e=.returned v)/\W=W':=by
 have hlt:=World.block_lt_of_cell? W _ hs
 refine callsIn_of_wp func318 rfl trivial ?_ rfl
 simp only[ntmps318,List.size_toArray,List.length_cons,List.length_nil,Nat.reduceAdd,Nat.reduceSub,Array.replicate_succ,Array.replicate_zero,List.push_toArray,List.append_toArray,List.nil_append,List.cons_append]
 gi_wp2
 gi_loopw [3] (fun i wr=>i=.int .i64 (-1)/\wr=W) (fun _ _=>0)
 case atStart=>exact⟨rfl,rfl⟩
 case round=>
  obtain⟨rfl,rfl⟩:=hrel
  gi_wp2
  go_end0
  exact⟨⟨_,rfl⟩,rfl⟩
def Zv0 :List UInt8:=[80,79,83,84]
def pathP :List UInt8:=[47,112]
def hostH :List UInt8:=[104]
theorem Zxr {w:World}{F:List Zae}{St fn fc bn bc:Nat}{fa ba:Option Addr}(m p hh:List UInt8)
  (h:Sep w (Zaa St 203 #[.slice none 0 0]::F)):
  CA 233 #[.pointer (some ⟨St,0,none⟩),.agg (Zcf m p hh fa fn fc ba bn bc),.int .i64 0] w fun e w'=>e=.returned (.tuple #[.agg #[.int .i64 0,.slice none 0 0,.slice none 0 0],.int .i64 0,.iface 95 (.int .i64 5)])/\Sep w' (Zaa St 203 #[.slice none 0 0]::F):=by
 have h1:=(((((h.newBlk 25 (Zcf m p hh fa fn fc ba bn bc)).newBlk 3 #[.int .i64 0]).newBlk 69 #[.int .i64 0,.slice none 0 0,.slice none 0 0]).newBlk 3 #[.int .i64 0]).newBlk 28 #[.nilIface])
 simp only[World.size_alloc]at h1
 unfold Zcf at h1⊢
 have kS:=h1.at_ (i:=5) rfl
 have kN:=h1.at_ (i:=3) rfl
 have H1:=Hd h1
 clear h h1
 refine(callsIn_wide (n:=7)).1 ?_
 refine callsIn_of_wp_marks func233 rfl trivial ?_ rfl
 simp only[ntmps233,List.size_toArray,List.length_cons,List.length_nil,Nat.reduceAdd,Nat.reduceSub,Array.replicate_succ,Array.replicate_zero,List.push_toArray,List.append_toArray,List.nil_append,List.cons_append]
 gi_wp2_with (first
  | (refine⟨trivial,?_⟩;gi_at_call 120;refine(callsIn_wide.2 (sto_time _)).mono ?_;rintro e w' ⟨rfl,rfl⟩)
  | (refine⟨trivial,?_⟩;gi_at_call 289;refine(back_new Fence.wide _ trivial rfl _ _ _ _).mono ?_;rintro e w' ⟨rfl,rfl⟩)
  | (refine⟨trivial,?_⟩))
 obtain⟨w1,hw1⟩:=exl (((((w.alloc (.cells #[.string ⟨m.toArray⟩,.string ⟨p.toArray⟩,.string ⟨hh.toArray⟩,.slice fa fn fc,.slice ba bn bc] 25)).alloc (.cells #[.int .i64 0] 3)).alloc (.cells #[.int .i64 0,.slice none 0 0,.slice none 0 0] 69)).alloc (.cells #[.int .i64 0] 3)).alloc (.cells #[.nilIface] 28))
 have hsz:w.heap.size+1+1+1+1+1=w1.heap.size:=by rw[<-hw1];simp
 rw[hw1,hsz]
 rw[hw1]at H1
 clear hw1 kS kN
 refine Zb8 rfl (by decide) (gf:=318) (lb:= #[.pointer (some ⟨w1.heap.size,0,none⟩)]) rfl trivial (enters_of func318 (by kernel_rfl) rfl) (fun l W hW=>back_nil ((hW.cell (p:=⟨w1.heap.size,0,none⟩) (by simp)).trans ((Blk.new w1 _ _).cell 0))) ?_
 intro D W hD hW hK
 have hs2:w1.heap.size+1<=D:=by simpa using hD
 have hbW:Below w1.heap.size w1 W:=((Below.refl _ w1).alloc (Nat.le_refl _) _).trans (hW.mono (by simp))
 have h3:=H1.out.newDef hbW (by omega) hK
 have kE:=h3.at_ (i:=1) rfl
 have kI:=h3.at_ (i:=2) rfl
 have kR:=h3.at_ (i:=3) rfl
 have H3:=Hd h3
 clear hD hW hK hs2 hbW h3 H1 hsz
 gi_wp2
 have h4:=((((H3.out.set_ (i:=3) rfl 0 (.int .i64 0)).set_ (i:=3) rfl 1 (.slice none 0 0)).set_ (i:=3) rfl 2 (.slice none 0 0)).set_ (i:=2) rfl 0 (.int .i64 0)).set_ (i:=1) rfl 0 (.iface 95 (.int .i64 5))
 refine⟨by simp,.inl ⟨_,_,rfl,run_takeDeferred (h4.def_ (i:=0) rfl),?_⟩⟩
 have h5:=h4.shut (.deferred none)
 exact⟨_,Zvt rfl _ _ _ _ _ _ _ _ _ _ _ _ rfl rfl rfl (h5.blk (i:=2) rfl) underlying69 rfl Zia underlying3 rfl ((h5.at_ (i:=1) rfl).1 0) underlying28 rfl ((h5.at_ (i:=0) rfl).1 0),rfl,h5.tail.tail.tail.tail.tail⟩
theorem Zyg {w:World}{F:List Zae}{St fn fc bn bc:Nat}{fa ba:Option Addr}
  (h:Sep w (Zaa St 203 #[.slice none 0 0]::F)):
  CA 233 #[.pointer (some ⟨St,0,none⟩),.agg (Zcf Zv0 pathP hostH fa fn fc ba bn bc),.int .i64 0] w fun e w'=>e=.returned (.tuple #[.agg #[.int .i64 0,.slice none 0 0,.slice none 0 0],.int .i64 0,.iface 95 (.int .i64 5)])/\Sep w' F:=
 (Zxr Zv0 pathP hostH h).mono fun _ _ h1=>⟨h1.1,h1.2.tail⟩
theorem sto_put {w:World}{F:List Zae}{St fn fc bn bc an ac dn dc:Nat}{fa ba aa da:Option Addr}{code:Int}(h:Sep w F):
  CA 67 #[.pointer (some ⟨St,0,none⟩),.agg (Zcf Zv0 pathP hostH fa fn fc ba bn bc),.agg #[.int .i64 code,.slice aa an ac,.slice da dn dc],.int .i64 0] w fun e w'=>e=.returned (.tuple #[.bool false,.nilIface])/\Sep w' F:=by
 have H:=Hd ((h.newBlk 25 (Zcf Zv0 pathP hostH fa fn fc ba bn bc)).newBlk 69 #[.int .i64 code,.slice aa an ac,.slice da dn dc]).tail.tail
 have b1:(ByteArray.mk Zv0.toArray==ByteArray.mk #[71,69,84])=false:=by decide
 have b2:(ByteArray.mk Zv0.toArray !=ByteArray.mk #[71,69,84])=true:=by decide
 clear h
 unfold Zcf
 unfold Zcf at H
 go_enter func67,ntmps67
 go_wp2
 go_ret2
 exact⟨rfl,H.out⟩
theorem Sep.cap {w:World}{L:List Zae}{i n c:Nat}{e:TypeId}{A:Option Addr}{xs:List Value}(h:Sep w L)(hi:L[i]? =some (Zad e 1 (.slice A n c) n xs)):n<=c:=by
 obtain⟨_,⟨h0,h1⟩ | ⟨_,_,_,h1,_,_,h2,_⟩⟩:=h.row hi
 ·cases h0;omega
 ·cases h1;exact h2
theorem Zlm {w:World}{F:List Zae}{kb C M n c:Nat}{A:Option Addr}{ord inn part:Value}{win last on:Int}{ends:Bool}(h:Sep w (Zaa kb 126 (Zau C M ord inn (.slice A n c) win last part on ends)::F)):
  CA 16 #[.pointer (some ⟨kb,0,none⟩)] w fun e w'=>e=.returned (.slice A n c)/\Sep w' (Zaa kb 126 (Zau C M ord inn (.slice none 0 0) win last part on ends)::F):=by
 have kK:=h.at_ (i:=0) rfl
 have H:=Hd h
 unfold Zau at kK
 clear h
 go_enter func16,ntmps16
 go_wp2
 go_ret
 exact⟨rfl,H.out.set_ (i:=0) rfl 4 (.slice none 0 0)⟩
theorem cn_out {w:World}{L:List Zae}{i kb C S M n c:Nat}{A:Option Addr}{ord inn part evs:Value}{iw ow un:Int}{began:Bool}(h:Sep w L)(hi:L[i]? =some (Zaa kb 200 (Zaf C S M ord inn (.slice A n c) iw ow un began part evs))):
  CA 62 #[.pointer (some ⟨kb,0,none⟩)] w fun e w'=>e=.returned (.slice A n c)/\Sep w' (L.set i (Zaa kb 200 (Zaf C S M ord inn (.slice none 0 0) iw ow un began part evs))):=by
 have kK:=h.at_ hi
 have H:=Hd (h.set_ hi 5 (.slice none 0 0))
 unfold Zaf at kK
 clear h hi
 go_enter func62,ntmps62
 go_wp2
 go_ret
 exact⟨rfl,H.out⟩
theorem Zk9 {w:World}{F:List Zae}{g kb C S M n c Li St CM JM:Nat}{A:Option Addr}{R log ord inn part evs:Value}{last iw ow un:Int}{began:Bool}(h:Sep w (Zaa g 120 (Za7 kb R Li St CM JM last log)::Zaa kb 200 (Zaf C S M ord inn (.slice A n c) iw ow un began part evs)::F)):
  CA 21 #[.pointer (some ⟨g,0,none⟩)] w fun e w'=>e=.returned (.slice A n c)/\Sep w' (Zaa g 120 (Za7 kb R Li St CM JM last log)::Zaa kb 200 (Zaf C S M ord inn (.slice none 0 0) iw ow un began part evs)::F):=by
 have kK:=h.at_ (i:=0) rfl
 have H:=Hd h
 unfold Za7 at kK
 clear h
 go_enter func21,ntmps21
 go_wp2_with fail
 refine(cn_out H.out (i:=1) rfl).mono ?_
 rintro e w2 ⟨rfl,h2⟩
 have H2:=Hd h2
 clear h2
 go_wp2
 go_ret
 exact⟨rfl,H2.out⟩
theorem Sep.rowAt {w:World}{L:List Zae}{i n c:Nat}{e:TypeId}{A:Option Addr}{xs:List Value}(h:Sep w L)(hi:L[i]? =some (Zad e 1 (.slice A n c) n xs))(h0:0 < n):∃g,A=some ⟨g,0,none⟩/\g < w.heap.size:=by
 obtain⟨_,⟨h2,h1⟩ | ⟨g,_,_,h1,_,h3,_,_⟩⟩:=h.row hi
 ·cases h2;omega
 ·cases h1;exact⟨g,rfl,(Array.getElem?_eq_some_iff.1 h3).1⟩
theorem Zil (w:World):(binOp .eql 28 (.iface 95 (.int .i64 8)) (.iface 95 (.int .i64 8))).run prog w=.ok (.bool true) w:=by kernel_rfl
theorem Zsw (w:World):(binOp .eql 28 .nilIface (.iface 95 (.int .i64 8))).run prog w=.ok (.bool false) w:=by kernel_rfl
theorem Zsx (w:World):(binOp .eql 28 (.iface 95 (.int .i64 8)) .nilIface).run prog w=.ok (.bool false) w:=by kernel_rfl
theorem Z0m (w:World):(binOp .eql 28 (.iface 95 (.int .i64 8)) (.iface 95 (.int .i64 4))).run prog w=.ok (.bool false) w:=by kernel_rfl
theorem Zd7 {w:World}{F:List Zae}{kb C M n c k bc:Nat}{A B:Option Addr}{ord out part:Value}{xs ys:List UInt8}{win last on:Int}{ends:Bool}
  (hn:n=xs.length) (hk:k=ys.length) (hs:n+k<=1000) (hB:∀w',Sep w' F->Zab w' w'.heap.size 1 B k (bs ys)) (hS:Zdy (xs++ys)=(Zhh,0,8))
  (h:Sep w (Zaa kb 126 (Zau C M ord (.slice A n c) out win last part on ends)::Zad 5 1 (.slice A n c) n (bs xs)::F)):
  CA 116 #[.pointer (some ⟨kb,0,none⟩),.slice B k bc] w fun e w'=>e=.returned .nilIface/\
   ∃A' c',Sep w' (Zaa kb 126 (Zau C M ord (.slice A' (n+k) c') out win last part on ends)::Zad 5 1 (.slice A' (n+k) c') (n+k) (bs (xs++ys))::F):=by
 have kK:=h.at_ (i:=0) rfl
 have HR:=Hd (hB _ h.tail.tail)
 have H:=Hd h
 have HN:=Hd hn
 have HK:=Hd hk
 have HS:=Hd hS
 unfold Zau at kK
 clear h hB hS hn hk
 go_enter func116,ntmps116
 go_wp2_with (at_builtin;refine Zcl (i:=1) rfl _ _ rfl _ n (bs xs) H.out rfl rfl _ _ _ _ HR.out rfl (by omega) ?_;intro A2 c2 w2 h2 _;have hK2:=h2.at_ (i:=0) rfl;have H2:=Hd h2;unfold Zau at hK2;clear h2 kK)
 refine wp_loop_rounds 1 ?_
 rw[rounds_succ]
 go_wp2_with fail
 obtain⟨w3,hw3⟩:=exl (w2.setCell ⟨kb,3,none⟩ (.slice A2 (n+k) c2))
 have h3:=H2.out.set_ (i:=0) rfl 3 (.slice A2 (n+k) c2)
 rw[hw3]at h3⊢
 change Sep w3 (Zaa kb _ (Zau C M ord (.slice A2 (n+k) c2) out win last part on ends)::Zad _ 1 _ (n+k) (bs xs++bs ys)::F)at h3
 rw[<-Za1]at h3
 have hl:(xs++ys).length=n+k:=by rw[List.length_append,<-HN.out,<-HK.out]
 refine(Zdt (xs++ys) A2 (n+k) c2 hl.symm (by rw[hl];exact h3.cap (i:=1) rfl) (by omega) w3 (by rw[hl];exact Zag h3 (i:=1) rfl)).mono ?_
 rintro e w4 ⟨v,rfl,A4,c4,rfl,-,hb4⟩
 rw[HS.out,Zbe (by decide)]
 have H4:=Hd (h3.below hb4)
 clear hK2 h3 hb4 hw3 hl
 unfold frV Zhh
 have HW:=Hd (H4.out.alloc (.cells #[.int .i64 0,.int .i64 0,.int .i64 0,.slice A4 0 c4] 134))
 have qe:=Zil
 go_wp2
 go_ret
 exact⟨rfl,A2,c2,HW.out⟩
theorem Zu9 {w:World}{F:List Zae}{kb C M n c k bc u z:Nat}{A B:Option Addr}{ord out part:Value}{xs ys:List UInt8}{win last on:Int}{ends:Bool}(f:Frm)(zs:List UInt8)
  (hn:n=xs.length) (hk:k=ys.length) (hs:n+k<=1000) (hB:∀w',Sep w' F->Zab w' w'.heap.size 1 B k (bs ys)) (hS:Zdy (xs++ys)=(f,u,0)) (hu:u<=n+k) (hu0:0 < n+k) (hz:(xs++ys).drop u=zs) (hzl:z=zs.length) (hS2:Zdy zs=(Zhh,0,8))
  (R:Value->Value->Value->Int->Int->Int->Bool->List Zae->Prop)
  (hH:∀(w1:World) (A1 BA:Option Addr) (c1 b1:Nat),Sep w1 (Zad 5 1 (.slice BA f.body.length b1) f.body.length (bs f.body)::Zaa kb 126 (Zau C M ord (.slice A1 (n+k) c1) out win last part on ends)::Zad 5 1 (.slice A1 (n+k) c1) (n+k) (bs (xs++ys))::F)->
   CA 171 #[.pointer (some ⟨kb,0,none⟩),frV f BA b1] w1 fun e w'=>e=.returned (.bool true)/\∃ord out part win last on ends G,R ord out part win last on ends G/\
    Sep w' (Zaa kb 126 (Zau C M ord (.slice A1 (n+k) c1) out win last part on ends)::Zad 5 1 (.slice A1 (n+k) c1) (n+k) (bs (xs++ys))::G))
  (h:Sep w (Zaa kb 126 (Zau C M ord (.slice A n c) out win last part on ends)::Zad 5 1 (.slice A n c) n (bs xs)::F)):
  CA 116 #[.pointer (some ⟨kb,0,none⟩),.slice B k bc] w fun e w'=>e=.returned .nilIface/\
   ∃ord out part win last on ends G A' c',R ord out part win last on ends G/\Sep w' (Zaa kb 126 (Zau C M ord (.slice A' z c') out win last part on ends)::Zad 5 1 (.slice A' z c') z (bs zs)::G):=by
 subst hzl
 have kK:=h.at_ (i:=0) rfl
 have HR:=Hd (hB _ h.tail.tail)
 have H:=Hd h
 have HN:=Hd hn
 have HK:=Hd hk
 have HS:=Hd hS
 have HS2:=Hd hS2
 have HZ:=Hd hz
 have HH:=Hd hH
 unfold Zau at kK
 clear h hB hS hn hk hS2 hz hH
 go_enter func116,ntmps116
 go_wp2_with (at_builtin;refine Zcl (i:=1) rfl _ _ rfl _ n (bs xs) H.out rfl rfl _ _ _ _ HR.out rfl (by omega) ?_;intro A2 c2 w2 h2 _;have hK2:=h2.at_ (i:=0) rfl;have H2:=Hd h2;unfold Zau at hK2;clear h2 kK)
 refine wp_loop_rounds 2 ?_
 rw[rounds_succ]
 go_wp2_with fail
 obtain⟨w3,hw3⟩:=exl (w2.setCell ⟨kb,3,none⟩ (.slice A2 (n+k) c2))
 have h3:=H2.out.set_ (i:=0) rfl 3 (.slice A2 (n+k) c2)
 rw[hw3]at h3⊢
 change Sep w3 (Zaa kb _ (Zau C M ord (.slice A2 (n+k) c2) out win last part on ends)::Zad _ 1 _ (n+k) (bs xs++bs ys)::F)at h3
 rw[<-Za1]at h3
 have hl:(xs++ys).length=n+k:=by rw[List.length_append,<-HN.out,<-HK.out]
 obtain⟨g2,rfl,-⟩:=h3.rowAt (i:=1) rfl hu0
 have hc2:=h3.cap (i:=1) rfl
 have HL:=Hd hl
 refine(Zdt (xs++ys) (some ⟨g2,0,none⟩) (n+k) c2 hl.symm (by rw[hl];exact hc2) (by omega) w3 (by rw[hl];exact Zag h3 (i:=1) rfl)).mono ?_
 rintro e w4 ⟨v,rfl,A4,c4,rfl,hown4,hb4⟩
 rw[HS.out]at hown4⊢
 rw[Zal]
 have H4:=Hd ((h3.newRow hb4 hown4).newBlk 134 #[.int .i64 f.K,.int .i64 f.F,.int .i64 f.S,.slice A4 f.body.length c4])
 have qe:=Zsw
 clear hK2 h3 hb4 hw3 hl hown4 H H2 HR
 unfold frV
 go_wp2_with fail
 refine(HH.out _ _ A4 c2 c4 H4.out.tail).mono ?_
 rintro e w5 ⟨rfl,ord',out',part',win',last',on',ends',G,hR,h5⟩
 have kK:=h5.at_ (i:=0) rfl
 have hr5:=(Zag h5 (i:=1) rfl).cut (k:=u) (cap:=c2) hu hc2
 rw[Nat.mul_one,Zfy,HZ.out]at hr5
 have hzn:n+k-u=zs.length:=by rw[<-HZ.out,List.length_drop,HL.out]
 have HZN:=Hd hzn
 rw[hzn]at hr5
 have H5:=Hd h5
 have HR5:=Hd hR
 unfold Zau at kK
 clear h5 hR hzn
 by_cases hcu:c2=u
 all_goals
  first
   | (rw[if_pos hcu]at hr5;have hr6:=hr5)
   | (rw[if_neg hcu]at hr5;have hr6:Zab w5 w5.heap.size 1 (some ⟨g2,u,none⟩) zs.length (bs zs):=by simpa [Addr.add_lit]using hr5)
  have HC:=Hd hr6
  clear hr5 hr6
  go_wp2_with fail
  refine(Zcd _ zs _ _ HZN.out (fun e=>by cases e) (by have:=HZN.out;omega) w5 HC.out).mono ?_
  rintro e w6 ⟨A6,c6,rfl,hown6,hb6⟩
  have h6:=H5.out.newRow hb6 hown6
  clear kK HC H5
  have kK:=h6.at_ (i:=1) rfl
  have H6:=Hd h6
  unfold Zau at kK
  clear h6 hown6 hb6
  go_wp2_with fail
  rw[rounds_succ]
  obtain⟨w7,hw7⟩:=exl (w6.setCell ⟨kb,3,none⟩ (.slice A6 zs.length c6))
  have h7:=H6.out.set_ (i:=1) rfl 3 (.slice A6 zs.length c6)
  rw[hw7]at h7⊢
  change Sep w7 (_::Zaa kb _ (Zau C M ord' (.slice A6 zs.length c6) out' win' last' part' on' ends')::_)at h7
  clear kK H6 hw7
  have kK:=h7.at_ (i:=1) rfl
  have H7:=Hd h7
  unfold Zau at kK
  clear h7
  go_wp2_with fail
  refine(Zdt zs A6 zs.length c6 rfl (H7.out.cap (i:=0) rfl) (by have:=HZN.out;omega) w7 (Zag H7.out (i:=0) rfl)).mono ?_
  rintro e w8 ⟨v,rfl,A8,c8,rfl,-,hb8⟩
  rw[HS2.out,Zbe (by decide)]
  have HW:=Hd ((H7.out.below hb8).alloc (.cells #[.int .i64 0,.int .i64 0,.int .i64 0,.slice A8 0 c8] 134))
  have qe2:=Zil
  clear kK H7 hb8
  unfold frV Zhh
  go_wp2
  go_ret
  exact⟨rfl,_,_,_,_,_,_,_,_,_,_,HR5.out,(HW.out.drop_ 2).front 1 rfl⟩
end
end Go.Proofs.YtbgnggkgmeagkaaGreatDoor
