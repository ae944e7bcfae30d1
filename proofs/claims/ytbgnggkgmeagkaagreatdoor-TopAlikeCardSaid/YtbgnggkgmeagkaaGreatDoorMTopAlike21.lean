/-
  A part of the proof of TopAlike: each theorem states its own conditions.
-/
import Derived.Test.YtbgnggkgmeagkaaGreatDoorMTopAlike20
set_option linter.unusedSimpArgs false
set_option linter.unusedVariables false
set_option maxRecDepth 100000
set_option maxHeartbeats 16000000
namespace Go.Proofs.YtbgnggkgmeagkaaGreatDoor
open Go.Proofs.Tryz
section
open Go.RowKit Go.Shelf
def setE :Frm:=⟨4,1,0,[]⟩
def Zf5 :List UInt8:=[0,0,0,4,1,0,0,0,0]
theorem Znq :Zeq setE=0/\Zbh setE=Zf5:=by decide
theorem Zn1 {P:Program}{fn:Func}{p:Tmp}{ty:TypeId}(h:fn.results= #[.cell p ty])(tmps:Array Value)(w:World)(g:Nat)(v:Value)
  (hp:tmps.getD p undef=.pointer (some ⟨g,0,none⟩)) (hg:w.cell? ⟨g,0,none⟩=some v) (hu:P.underlying ty=some .bool):
  (results fn tmps).run P w=.ok v w:=by
 have hp':tmps[p]?.getD undef=.pointer (some ⟨g,0,none⟩):=by simpa using hp
 simp[results,h,hp',asAddr,loadVar,isAgg,run_underlying hu,hg,go_sem]
theorem Ztc {w:World}{F:List Zae}{kb C M oc n c bc:Nat}{OA A BA:Option Addr}{inn part:Value}{xs:List UInt8}{win last on:Int}{ends:Bool}(hn:n<=1000)
  (h:Sep w (Zaa kb 126 (Zau C M (.slice OA 0 oc) inn (.slice A n c) win last part on ends)::Zad 5 1 (.slice A n c) n (bs xs)::F)):
  CA 248 #[.pointer (some ⟨kb,0,none⟩),.slice BA 0 bc] w fun e w'=>e=.returned (.bool true)/\∃A' c',Sep w' (Zaa kb 126 (Zau C M (.slice OA 0 oc) inn (.slice A' (n+9) c') win last part on ends)::Zad 5 1 (.slice A' (n+9) c') (n+9) (bs (xs++Zf5))::F):=by
 have h1:=h.newBlk 52 #[.pointer (some ⟨kb,0,none⟩)]
 have h2:=h1.newBlk 4 #[.bool false]
 simp only[World.size_alloc]at h2
 have H2:=Hd h2
 clear h h1 h2
 refine(callsIn_wide (n:=7)).1 ?_
 refine callsIn_of_wp_marks func248 rfl trivial ?_ rfl
 simp only[ntmps248,List.size_toArray,List.length_cons,List.length_nil,Nat.reduceAdd,Nat.reduceSub,Array.replicate_succ,Array.replicate_zero,List.push_toArray,List.append_toArray,List.nil_append,List.cons_append]
 gi_wp2_with (first
  | (refine⟨trivial,?_⟩;gi_at_call 105;refine(Zh0 Fence.wide _ trivial rfl _ _ _ _).mono ?_;rintro e w' ⟨rfl,rfl⟩)
  | (refine⟨trivial,?_⟩))
 obtain⟨w1,hw1⟩:=exl ((w.alloc (.cells #[.pointer (some ⟨kb,0,none⟩)] 52)).alloc (.cells #[.bool false] 4))
 have hsz:w.heap.size+1+1=w1.heap.size:=by rw[<-hw1];simp
 rw[hw1,hsz]
 rw[hw1]at H2
 clear hw1 hsz
 refine Zb8 rfl (by decide) (gf:=159) (lb:= #[.pointer (some ⟨w1.heap.size,0,none⟩),.pointer (some ⟨w1.heap.size+1,0,none⟩)]) rfl trivial (enters_of func159 (by kernel_rfl) rfl) (fun l W hW=>Zri (by simpa using hW) _) ?_
 intro D W hD hW hK
 have hs2:w1.heap.size+2<=D:=by simpa using hD
 have hbW:Below w1.heap.size w1 W:=(((Below.refl _ w1).alloc (Nat.le_refl _) _).alloc (by simp) _).trans (hW.mono (by simp;omega))
 have h3:=((H2.out.newDef hbW (by omega) hK).front 4 rfl).front 4 rfl
 have kB:=h3.at_ (i:=4) rfl
 have H3:=Hd h3
 clear hD hW hK hs2 hbW h3 H2
 gi_wp2_with (first
  | (refine⟨trivial,?_⟩;gi_at_call 55;refine(callsIn_wide.2 (csay setE Znq.1 none 0 Zab.none_ kb (xs:=xs) (by omega) H3.out)).mono ?_;rintro e w4 ⟨rfl,A4,c4,h4⟩;rw[Znq.2]at h4;have kB4:=h4.at_ (i:=4) rfl;have H4:=Hd h4;clear h4 kB)
  | (refine⟨trivial,?_⟩;gi_at_call 58;refine(callsIn_wide.2 (Z00 (w:=w4) H4.out)).mono ?_;rintro e w5 ⟨rfl,h5⟩;have kB5:=h5.at_ (i:=3) rfl;have H5:=Hd h5;clear h5 kB4))
 have h6:=(H5.out.set_ (i:=3) rfl 0 (.bool true)).front 2 rfl
 refine⟨by simp,.inl ⟨_,_,rfl,run_takeDeferred (h6.def_ (i:=0) rfl),?_⟩⟩
 have h7:=h6.shut (.deferred none)
 exact⟨_,Zn1 rfl _ _ (w.heap.size+1) (.bool true) rfl ((h7.at_ (i:=2) rfl).1 0) underlying4,rfl,A4,c4,(h7.drop_ 2).drop_ 2⟩
theorem Ztd {w:World}{F:List Zae}{kb C M oc n c bc:Nat}{OA A BA:Option Addr}{inn part:Value}{xs:List UInt8}{win last:Int}{ends:Bool}(hn:n<=1000)
  (h:Sep w (Zaa kb 126 (Zau C M (.slice OA 0 oc) inn (.slice A n c) win last part 0 ends)::Zad 5 1 (.slice A n c) n (bs xs)::F)):
  CA 171 #[.pointer (some ⟨kb,0,none⟩),.agg #[.int .i64 4,.int .i64 0,.int .i64 0,.slice BA 0 bc]] w fun e w'=>e=.returned (.bool true)/\∃A' c',Sep w' (Zaa kb 126 (Zau C M (.slice OA 0 oc) inn (.slice A' (n+9) c') win last part 0 ends)::Zad 5 1 (.slice A' (n+9) c') (n+9) (bs (xs++Zf5))::F):=by
 have h1:=h.newBlk 134 #[.int .i64 4,.int .i64 0,.int .i64 0,.slice BA 0 bc]
 have kX:=h1.at_ (i:=0) rfl
 have kK:=h1.at_ (i:=1) rfl
 have H1:=Hd h1
 unfold Zau at kK
 clear h h1
 go_enter func171,ntmps171
 go_wp2
 go_quiet (fail)
 obtain⟨w2,hw2⟩:=exl ((w.alloc (.cells #[.int .i64 4,.int .i64 0,.int .i64 0,.slice BA 0 bc] 134)).drewN nq)
 have h2:=H1.out.drewN nq
 rw[hw2]at h2⊢
 clear kX kK H1 hw2
 have kX:=h2.at_ (i:=0) rfl
 have kK:=h2.at_ (i:=1) rfl
 have H2:=Hd h2
 unfold Zau at kK
 clear h2
 go_wp2_with (first
  | (go_at_call 213;refine(Zou 0 BA bc w2).mono ?_;rintro e w3 ⟨rfl,hb3⟩;have h3:=H2.out.below hb3;have kX3:=h3.at_ (i:=0) rfl;have kK3:=h3.at_ (i:=1) rfl;have H3:=Hd h3;unfold Zau at kK3;clear h3 hb3 kX kK)
  | (go_at_call 248;refine(Ztc (w:=w3) hn H3.out.tail).mono ?_;rintro e w4 ⟨rfl,A4,c4,h4⟩;have H4:=Hd h4;clear h4))
 go_ret
 exact⟨rfl,A4,c4,H4.out⟩
theorem Zte {w:World}{F:List Zae}{kb C M bc:Nat}{BA:Option Addr}{ord inn out part:Value}{win last:Int}{ends:Bool}
  (h:Sep w (Zaa kb 126 (Zau C M ord inn out win last part 0 ends)::F)):
  CA 171 #[.pointer (some ⟨kb,0,none⟩),.agg #[.int .i64 4,.int .i64 1,.int .i64 0,.slice BA 0 bc]] w fun e w'=>e=.returned (.bool true)/\Sep w' (Zaa kb 126 (Zau C M ord inn out win last part 0 ends)::F):=by
 have h1:=h.newBlk 134 #[.int .i64 4,.int .i64 1,.int .i64 0,.slice BA 0 bc]
 have kX:=h1.at_ (i:=0) rfl
 have kK:=h1.at_ (i:=1) rfl
 have H1:=Hd h1
 unfold Zau at kK
 clear h h1
 go_enter func171,ntmps171
 go_wp2
 go_quiet (fail)
 obtain⟨w2,hw2⟩:=exl ((w.alloc (.cells #[.int .i64 4,.int .i64 1,.int .i64 0,.slice BA 0 bc] 134)).drewN nq)
 have h2:=H1.out.drewN nq
 rw[hw2]at h2⊢
 clear kX kK H1 hw2
 have kX:=h2.at_ (i:=0) rfl
 have kK:=h2.at_ (i:=1) rfl
 have H2:=Hd h2
 unfold Zau at kK
 clear h2
 go_wp2_with (first
  | (go_at_call 213;refine(Zou 1 BA bc w2).mono ?_;rintro e w3 ⟨rfl,hb3⟩;have h3:=H2.out.below hb3;have kX3:=h3.at_ (i:=0) rfl;have kK3:=h3.at_ (i:=1) rfl;have H3:=Hd h3;unfold Zau at kK3;clear h3 hb3 kX kK))
 go_ret
 exact⟨rfl,H3.out.tail⟩
theorem ci_nil (w:World):
  CA 301 #[.slice none 0 0] w fun e w'=>e=.returned (.slice none 0 0)/\Below w.heap.size w w':=by
 have q:=Lib.run_eql_slice_nil (P:=prog) w 58 3 none 0 0 0 0 underlying58
 go_enter func301,ntmps301
 go_wp2
 go_ret
 exact⟨rfl,Below.refl _ _⟩
theorem Ztf {w:World}{F:List Zae}{i n c:Nat}{A:Option Addr}{xs:List Value}(h:Sep w F)(hi:F[i]? =some (Zad 3 1 (.slice A n c) n xs))(hA:∃g,A=some ⟨g,0,none⟩)(hn:n<=1000)(h1:∀u∈xs,u.oneCell'=true):
  CA 301 #[.slice A n c] w fun e w'=>∃A' c',e=.returned (.slice A' n c')/\Sep w' (Zad 3 1 (.slice A' n c') n xs::F):=by
 obtain⟨g,rfl⟩:=hA
 have ho:=Zig w 3 1
 have hb:=(Below.refl w.heap.size w).alloc (Nat.le_refl _) (.cells #[] 3)
 have HO:=Hd ho
 have HB:=Hd hb
 have HR:=Hd (Zag (h.below hb) hi)
 have H:=Hd h
 have HI:=Hd h1
 clear ho hb h hi h1
 have q:=Lib.run_eql_slice_nil (P:=prog) w 58 3 (some ⟨g,0,none⟩) n c 0 0 underlying58
 obtain⟨i0,hi0,hz0,hz1,hz2⟩:=info_parts Zg0
 go_enter func301,ntmps301
 go_wp2_with (at_builtin;refine Zah _ rfl _ _ 58 rfl w.heap.size 3 i0 (.int .i64 0) 1 8 underlying58 hi0 hz0 hz1 hz2 rfl (by decide) _ 0 [] rfl HO.out _ (some ⟨g,0,none⟩) n c xs rfl HR.out HI.out (by unfold maxLen;omega) (by omega) (by simp) ?_;intro v' w' hown' hg _;have hb2:=Zbl HB.out HO.out hg (by simp))
 go_ret
 rw[Nat.zero_add,List.nil_append]at hown'
 obtain⟨A',c',rfl⟩:=Zas hown'
 exact⟨A',c',rfl,H.out.newRow hb2 hown'⟩
def Zo2 (F:List Zae)(OA:Option Addr)(oc:Nat):Prop:=(OA=none/\oc=0)∨∃(g:Nat) (i:Nat),OA=some ⟨g,0,none⟩/\F[i]? =some (Zad 3 1 (.slice OA 0 oc) 0 [])
theorem Zzb {w:World}{F:List Zae}{a b:Zae}{OA:Option Addr}{oc:Nat}(h:Sep w (a::b::F))(ho:Zo2 F OA oc):
  CA 301 #[.slice OA 0 oc] w fun e w'=>∃A' c',e=.returned (.slice A' 0 c')/\Sep w' (a::b::F):=by
 rcases ho with⟨rfl,rfl⟩ | ⟨g,i,rfl,hi⟩
 ·refine(ci_nil w).mono ?_
  rintro e w' ⟨rfl,hb⟩
  exact⟨_,_,rfl,h.below hb⟩
 ·refine(Ztf h (i:=i+2) hi ⟨g,rfl⟩ (by decide) (by simp)).mono ?_
  rintro e w' ⟨A',c',rfl,h1⟩
  exact⟨_,_,rfl,h1.tail⟩
theorem Zzj {w:World}{F:List Zae}{kb C S M oc:Nat}{OA:Option Addr}{inn out part evs:Value}{iw ow un:Int}{began:Bool}(ho:Zo2 F OA oc)(h:Sep w (Zaa kb 200 (Zaf C S M (.slice OA 0 oc) inn out iw ow un began part evs)::F)):
  CA 253 #[.pointer (some ⟨kb,0,none⟩)] w fun e w'=>e=.returned (.tuple #[])/\Sep w' (Zaa kb 200 (Zaf C S M (.slice OA 0 oc) inn out iw ow un began part evs)::F):=by
 have h1:=h.newBlk 111 #[.pointer (some ⟨kb,0,none⟩)]
 have kX:=h1.at_ (i:=0) rfl
 have kK:=h1.at_ (i:=1) rfl
 have n1:kb≠w.heap.size:=h1.ne_ (i:=1) (i':=0) rfl rfl (by decide)
 have HC:=Hd (Zzb h1 ho)
 unfold Zaf at kK
 clear h h1 ho
 go_enter func253,ntmps253
 go_wp2_with fail
 refine Mo HC ?_
 rintro e w2 ⟨A',c',rfl,h2⟩
 have H2:=Hd h2.drew
 clear kX kK HC
 have kX:=h2.at_ (i:=0) rfl
 have kK:=h2.at_ (i:=1) rfl
 unfold Zaf at kK
 clear h2
 go_wp2
 refine wp_loop_rounds 1 ?_
 rw[rounds_succ]
 go_wp2
 go_region_with (go_at_call 108;refine(Zu7 _ _ _ _).mono ?_;rintro e w8 ⟨rfl,rfl⟩)
 all_goals
  go_wp2
  refine bodyPost_end (results_none rfl _ _ _) rfl ?_
  refine⟨rfl,?_⟩
  have h9:=H2.out.set_ (i:=1) rfl 3 (.slice OA 0 oc)
  exact h9.drop_ 0
theorem Zs7 {w:World}{F:List Zae}{kb C S M n c bc:Nat}{A BA:Option Addr}{inn part evs:Value}{xs:List UInt8}{iw ow un:Int}{began:Bool}(hn:n<=1000)
  (h:Sep w (Zaa kb 200 (Zaf C S M (.slice none 0 0) inn (.slice A n c) iw ow un began part evs)::Zad 5 1 (.slice A n c) n (bs xs)::F)):
  CA 220 #[.pointer (some ⟨kb,0,none⟩),.slice BA 0 bc] w fun e w'=>e=.returned (.tuple #[])/\∃A' c',Sep w' (Zaa kb 200 (Zaf C S M (.slice none 0 0) inn (.slice A' (n+9) c') iw ow un began part evs)::Zad 5 1 (.slice A' (n+9) c') (n+9) (bs (xs++Zf5))::F):=by
 have h2:=h.newBlk 111 #[.pointer (some ⟨kb,0,none⟩)]
 have H2:=Hd h2
 clear h h2
 refine(callsIn_wide (n:=7)).1 ?_
 refine callsIn_of_wp_marks func220 rfl trivial ?_ rfl
 simp only[ntmps220,List.size_toArray,List.length_cons,List.length_nil,Nat.reduceAdd,Nat.reduceSub,Array.replicate_succ,Array.replicate_zero,List.push_toArray,List.append_toArray,List.nil_append,List.cons_append]
 gi_wp2_with (first
  | (refine⟨trivial,?_⟩;gi_at_call 105;refine(Zh0 Fence.wide _ trivial rfl _ _ _ _).mono ?_;rintro e w' ⟨rfl,rfl⟩)
  | (refine⟨trivial,?_⟩))
 obtain⟨w1,hw1⟩:=exl (w.alloc (.cells #[.pointer (some ⟨kb,0,none⟩)] 111))
 have hsz:w.heap.size+1=w1.heap.size:=by rw[<-hw1];simp
 rw[hw1,hsz]
 rw[hw1]at H2
 clear hw1 hsz
 refine Zb8 rfl (by decide) (gf:=159) (lb:= #[.pointer (some ⟨w1.heap.size,0,none⟩),.pointer (some ⟨w1.heap.size+1,0,none⟩)]) rfl trivial (enters_of func159 (by kernel_rfl) rfl) (fun l W hW=>Zri (by simpa using hW) _) ?_
 intro D W hD hW hK
 have hs2:w1.heap.size+2<=D:=by simpa using hD
 have hbW:Below w1.heap.size w1 W:=(((Below.refl _ w1).alloc (Nat.le_refl _) _).alloc (by simp) _).trans (hW.mono (by simp;omega))
 have h3:=((H2.out.newDef hbW (by omega) hK).front 3 rfl).front 3 rfl
 have kB:=h3.at_ (i:=3) rfl
 have H3:=Hd h3
 clear hD hW hK hs2 hbW h3 H2
 gi_wp2_with (first
  | (refine⟨trivial,?_⟩;gi_at_call 102;refine(callsIn_wide.2 (nsay setE Znq.1 none 0 Zab.none_ kb (xs:=xs) (by omega) H3.out)).mono ?_;rintro e w4 ⟨rfl,A4,c4,h4⟩;rw[Znq.2]at h4;have kB4:=h4.at_ (i:=3) rfl;have H4:=Hd h4;clear h4 kB)
  | (refine⟨trivial,?_⟩;gi_at_call 253;refine(callsIn_wide.2 (Zzj (w:=w4) (.inl ⟨rfl,rfl⟩) H4.out)).mono ?_;rintro e w5 ⟨rfl,h5⟩;have H5:=Hd h5;clear h5 kB4))
 have h6:=H5.out.front 2 rfl
 refine⟨by simp,.inl ⟨_,_,rfl,run_takeDeferred (h6.def_ (i:=0) rfl),?_⟩⟩
 have h7:=h6.shut (.deferred none)
 exact⟨_,results_none rfl _ _ _,rfl,A4,c4,h7.drop_ 2⟩
theorem Zll {w:World}{F:List Zae}{kb C S M n c bc:Nat}{A BA:Option Addr}{inn evs:Value}{xs:List UInt8}{iw ow un:Int}{began:Bool}(hn:n<=1000)
  (h:Sep w (Zaa kb 200 (Zaf C S M (.slice none 0 0) inn (.slice A n c) iw ow un began (.pointer none) evs)::Zad 5 1 (.slice A n c) n (bs xs)::F)):
  CA 162 #[.pointer (some ⟨kb,0,none⟩),.agg #[.int .i64 4,.int .i64 0,.int .i64 0,.slice BA 0 bc]] w fun e w'=>e=.returned (.tuple #[])/\∃A' c',Sep w' (Zaa kb 200 (Zaf C S M (.slice none 0 0) inn (.slice A' (n+9) c') iw ow un true (.pointer none) evs)::Zad 5 1 (.slice A' (n+9) c') (n+9) (bs (xs++Zf5))::F):=by
 have h1:=h.newBlk 134 #[.int .i64 4,.int .i64 0,.int .i64 0,.slice BA 0 bc]
 have kX:=h1.at_ (i:=0) rfl
 have kK:=h1.at_ (i:=1) rfl
 have H1:=Hd h1
 unfold Zaf at kK
 clear h h1
 cases began
 all_goals
  go_enter func162,ntmps162
  go_wp2
  go_quiet (fail)
  obtain⟨w2,hw2⟩:=exl ((w.alloc (.cells #[.int .i64 4,.int .i64 0,.int .i64 0,.slice BA 0 bc] 134)).drewN nq)
  have h2:=H1.out.drewN nq
  rw[hw2]at h2⊢
  clear kX kK H1 hw2
  have kX:=h2.at_ (i:=0) rfl
  have kK:=h2.at_ (i:=1) rfl
  have H2:=Hd h2
  unfold Zaf at kK
  clear h2
  go_wp2_with fail
  refine(Zou 0 BA bc w2).mono ?_
  rintro e w3 ⟨rfl,hb3⟩
  have h3:=H2.out.below hb3
  clear kX kK H2 hb3
  have kX:=h3.at_ (i:=0) rfl
  have kK:=h3.at_ (i:=1) rfl
  have n1:=h3.ne_ (i:=1) (i':=0) rfl rfl (by decide)
  have n2:=Ne.symm n1
  have H3:=Hd h3
  unfold Zaf at kK
  clear h3
  go_wp2_with fail
  obtain⟨w4,hw4⟩:=exl (w3.setCell ⟨kb,10,none⟩ (.bool true))
  have h4:=H3.out.set_ (i:=1) rfl 10 (.bool true)
  rw[hw4]at h4⊢
  change Sep w4 (_::Zaa kb _ (Zaf C S M (.slice none 0 0) inn (.slice A n c) iw ow un true (.pointer none) evs)::_)at h4
  clear kX kK n1 n2 hw4
  refine(Zs7 hn h4.tail).mono ?_
  rintro e w5 ⟨rfl,A5,c5,h5⟩
  have H5:=Hd h5
  clear h4 h5 H3
  go_wp2
  refine bodyPost_end (results_none rfl _ _ _) rfl ?_
  exact⟨rfl,A5,c5,H5.out⟩
theorem fl_giveS {w:World}{L:List Zae}{i b o n:Nat}{t:TypeId}{cs:Array Value}(h:Sep w L)(hi:L[i]? =some (Zaa b t cs))(hc:cs[o]? =some (.int .i64 (n:Int)))(hn:n<=10000):
  CA 278 #[.pointer (some ⟨b,o,none⟩),.int .i64 4] w fun e w'=>e=.returned .nilIface/\Sep w' (L.set i (Zaa b t (cs.setIfInBounds o (.int .i64 ((n+4:Nat):Int))))):=by
 have h1:w.cell? ⟨b,o,none⟩=some (.int .i64 (n:Int)):=((h.blk hi).cell o).trans hc
 have h2:w.frozen? ⟨b,o,none⟩=false:=(h.blk hi).frozen o
 have hl:=World.block_lt_of_cell? w _ h1
 have H:=Hd (h.set_ hi o (.int .i64 ((n:Int)+4)))
 have e1:wrap64 (2147483647-((n:Nat):Int))=2147483647-((n:Nat):Int):=by unfold wrap64;omega
 have e2:¬(4:Int) > 2147483647-((n:Nat):Int):=by omega
 have e3:¬2147483647-((n:Nat):Int) < 4:=by omega
 have e4:wrap64 (((n:Nat):Int)+4)=((n+4:Nat):Int):=by unfold wrap64;omega
 clear h hi hc
 go_enter func278,ntmps278
 go_wp2
 go_ret
 exact⟨rfl,H.out⟩
def Zbr (st many:Int)(en:Bool)(blk:Value):Array Value:= #[.int .i64 st,.int .i64 many,.bool en,blk]
def Ziu :List Fld:=[([58,109,101,116,104,111,100],[80,79,83,84]),([58,112,97,116,104],[47,112]),([58,104,111,115,116],[104])]
def Zoz :List UInt8:=[130,67,2,47,112,68,1,104]
theorem Z1r :heard 4096 [] 4096 [] Zoz=⟨0,[([58,104,111,115,116],[104]),([58,112,97,116,104],[47,112])],4096,Ziu,0⟩:=by kernel_rfl
theorem cn_whole {w:World}{F:List Zae}{kb C S M MS P gg hh c5:Nat}{A5:Option Addr}{ord inn out part:Value}{iw ow un:Int}{began:Bool}
  (h:Sep w (Zaa C 93 (Zai gg hh)::Zbw hh none 0 [] 4096::Zad 5 1 (.slice A5 8 c5) 8 (bs Zoz)::Zaa kb 200 (Zaf C S M ord inn out iw ow un began part (.slice none 0 0))::Zak M #[] 0::
   Zaa S 254 (Zbf MS 0)::Zak MS #[] 0::Zaa P 307 (Zbr 1 1 false (.slice A5 8 c5))::F)):
  CA 273 #[.pointer (some ⟨kb,0,none⟩),.pointer (some ⟨P,0,none⟩)] w fun e w'=>e=.returned (.tuple #[])/\∃X D dc E ec,Sep w' (Zaa kb 200 (Zaf C S M ord inn out iw ow un began (.pointer none) (.slice E 1 ec))::
   Zad 215 6 (.slice E 1 ec) 1 (evV 1 1 0 (.slice D 3 dc) (.slice none 0 0) false).toList::Zaa X 313 (Zbn 2000 2000 0 (.slice none 0 0) false false)::Zak M (Zaw (.pointer (some ⟨X,0,none⟩))) 1::
   Zaa S 254 (Zbf MS 1)::Zak MS (Zaw (.int .i64 1)) 1::Zad 41 2 (.slice D 3 dc) 3 (fvs Ziu)::Zaa C 93 (Zai gg hh)::F):=by
 have kK:=h.at_ (i:=3) rfl
 have kP:=h.at_ (i:=7) rfl
 have n1:=h.ne_ (i:=3) (i':=7) rfl rfl (by decide)
 have n2:=Ne.symm n1
 have H:=Hd h
 unfold Zaf at kK
 unfold Zbr at kP
 clear h
 go_enter func273,ntmps273
 go_wp2_with fail
 obtain⟨w1,hw1⟩:=exl (w.setCell ⟨kb,12,none⟩ (.pointer none))
 have h1:=H.out.set_ (i:=3) rfl 12 (.pointer none)
 rw[hw1]at h1⊢
 change Sep w1 (_::_::_::Zaa kb _ (Zaf C S M ord inn out iw ow un began (.pointer none) (.slice none 0 0))::_)at h1
 clear kK kP n1 n2 H hw1
 have kK:=h1.at_ (i:=3) rfl
 have kP:=h1.at_ (i:=7) rfl
 have H1:=Hd h1.drew
 unfold Zaf at kK
 unfold Zbr at kP
 clear h1
 go_region_held3 (fun w'=>w'.cell? ⟨kb,0,none⟩=some (.pointer (some ⟨C,0,none⟩))/\w'.cell? ⟨P,3,none⟩=some (.slice A5 8 c5)) (first | exact⟨kK.1 0,kP.1 3⟩ | exact⟨kK2.1 0,kP2.1 3⟩ | go_keep)
  (first | (go_at_call 11;refine(Zmq H1.out Zoz A5 8 c5 0 rfl (by decide) (by decide) rfl _ _ Ziu Z1r).mono ?_;rintro e w2 ⟨D,n7,dc,rfl,rfl,h2⟩;have kK2:=h2.at_ (i:=3) rfl;have kP2:=h2.at_ (i:=7) rfl;have H2:=Hd h2;unfold Zaf at kK2;unfold Zbr at kP2;clear h2))
 clear kK kP
 go_wp2_with fail
 refine(nc_stop0 H2.out (i:=3) (j:=4) rfl rfl).mono ?_
 rintro e w' ⟨rfl,rfl⟩
 go_wp2_with fail
 refine(Zyh H2.out (i:=5) rfl).mono ?_
 rintro e w' ⟨rfl,rfl⟩
 go_wp2_with fail
 refine(sm_open ((H2.out.front 6 rfl).front 6 rfl)).mono ?_
 rintro e w3 ⟨rfl,h3⟩
 clear kK2 kP2 H2 H1
 have kK:=h3.at_ (i:=5) rfl
 have kP:=h3.at_ (i:=7) rfl
 have H3:=Hd h3
 unfold Zaf at kK
 unfold Zbr at kP
 clear h3
 go_wp2_with fail
 refine(Zpg w3).mono ?_
 rintro e w' ⟨rfl,rfl⟩
 go_wp2_with fail
 refine(Zwa (.inl ⟨rfl,rfl⟩) H3.out (i:=5) (i1:=0) (j:=1) rfl rfl rfl).mono ?_
 rintro e w4 ⟨rfl,h4⟩
 have h5:=(h4.front 6 rfl).front 6 rfl
 clear kK kP H3 h4
 have H4:=Hd h5
 clear h5
 go_wp2_with fail
 refine(nc_new H4.out).mono ?_
 rintro e w5 ⟨X,rfl,h5⟩
 have kP:=h5.at_ (i:=8) rfl
 have H5:=Hd (h5.front 1 rfl)
 unfold Zbr at kP
 clear h5 H4
 go_wp2_with fail
 refine(Zup 1 1 0 D none 3 dc 0 0 false H5.out).mono ?_
 rintro e w6 ⟨rfl,E,ec,h6⟩
 have H6:=Hd h6
 clear h6 H5 kP
 go_wp2
 refine bodyPost_end (results_none rfl _ _ _) rfl ?_
 exact⟨rfl,X,D,dc,E,ec,(H6.out.drop_ 8).drop_ 8⟩
def Zir (ad:Addr)(l:List UInt8):Zae:=⟨fun k=>k=ad.block,fun w=>Zab w w.heap.size 1 (some ad) l.length (bs l)/\ad.block < w.heap.size,fun S w w' hk hS hl h=>⟨by
 refine⟨h.1.1,fun hn=> ?_⟩
 obtain⟨a,he,hb,hc⟩:=h.1.2 hn
 cases he
 refine⟨ad,rfl,Nat.lt_of_lt_of_le hb hk.size,fun j u hj=> ?_⟩
 have h1:=hc j u hj
 have h2:(ad.add j).block=ad.block:=Zbk ad j
 exact(World.cell?_of_block (w:=w) (by rw[h2];exact hk.block ad.block hb (hS ad.block rfl))).trans h1,Nat.lt_of_lt_of_le h.2 hk.size⟩⟩
theorem Sep.byt {w:World}{L:List Zae}{i:Nat}{ad:Addr}{l:List UInt8}(h:Sep w L)(hi:L[i]? =some (Zir ad l)):Zab w w.heap.size 1 (some ad) l.length (bs l):=(h.get hi).1
theorem Sep.newByt {w w':World}{L:List Zae}{v:Value}{l:List UInt8}(h:Sep w L)(ha:Zne w w' v l):∃ad c,v=.slice (some ad) l.length c/\l.length<=c/\Sep w' (Zir ad l::L):=by
 obtain⟨ad,c,rfl,hc,h1,h2,h3,h4⟩:=ha
 exact⟨ad,c,rfl,hc,h.new h4 ⟨h3,h2⟩ (by rintro k rfl;exact⟨h1,h2⟩)⟩
def Zf1 :List UInt8:=Zjt [80,79,83,84] [47,112] [104] [] [120]
theorem Zdn :Zf8 [80,79,83,84] [47,112] [104] [] 1=0/\Zf1.length=39:=⟨by kernel_rfl,by kernel_rfl⟩
theorem upd_job {w:World}{L:List Zae}{i M:Nat}{v:Value}(h:Sep w L)(hi:L[i]? =some (Zak M #[] 0)):(Instr.mapUpdate 117 (.map (some M)) (.int .i64 1) v).run prog w=.ok () (putM w M (Zaw v) 1):=
 Za9 (P:=prog) (t:=117) (k:=.int .i64 1) underlying117 underlying3 rfl (h.map_ hi) (by rfl) v
theorem Zfg {w:World}{L:List Zae}{i M Y c:Nat}(h:Sep w L)(hi:L[i]? =some (Zak M (Zaw (.pointer (some ⟨Y,0,none⟩))) c)):(Instr.lookup 116 (.map (some M)) (.int .i64 1) false).run prog w=.ok (.pointer (some ⟨Y,0,none⟩)) w:=
 Zcr (P:=prog) (t:=116) (k:=.int .i64 1) underlying116 underlying3 rfl (h.map_ hi) (i:=0) (by rfl) false
theorem rt_rowg {w:World}{L:List Zae}{i c g:Nat}(h:Sep w L)(hi:L[i]? =some (Zad 47 3 (.slice (some ⟨g,0,none⟩) 1 c) 1 rtV)):Zrg w g:=by
 obtain⟨g',e,h1,-⟩:=rt_row h hi
 cases e
 exact h1
theorem Z0n (w:World):(binOp .eql 28 (.iface 95 (.int .i64 5)) .nilIface).run prog w=.ok (.bool false) w:=by kernel_rfl
theorem fask_C {w:World}{LA:Option Addr}{ad:Addr}{c bc:Nat}(hr:Zab w w.heap.size 2 LA 3 (fvs Ziu))(hrb:Zab w w.heap.size 1 (some ad) 1 (bs [120])):
  CA 12 #[.slice LA 3 c,.slice (some ad) 1 bc] w fun e w'=>∃fa fc ba bc',e=.returned (.tuple #[.agg #[.string ⟨#[80,79,83,84]⟩,.string ⟨#[47,112]⟩,.string ⟨#[104]⟩,.slice fa 0 fc,.slice ba 1 bc'],.nilIface])/\w'.ownsRow w.heap.size 5 1 (.slice ba 1 bc') 1 (bs [120])/\Below w.heap.size w w':=by
 refine(Zu2 [80,79,83,84] [47,112] [104] [] [120] (by decide) (by decide) (by decide) (fun f hf=>by cases hf) (by decide) (by decide) (by decide) LA 3 c rfl (some ad) 1 bc rfl (fun e=>by cases e) w hr hrb).mono ?_
 rintro e w' ⟨hb,hif⟩
 have h0:Zf8 [80,79,83,84] [47,112] [104] (Zke ⟨[],none⟩ []).l [120].length=0:=Zdn.1
 rw[if_neg (fun hh=>hh.elim (fun h=>by simp at h) (fun h=>h h0))]at hif
 obtain⟨fa,fc,ba,bc',rfl,-,h1⟩:=hif
 exact⟨fa,fc,ba,bc',rfl,h1,hb⟩
theorem Zkd {w:World}{r a b:Zae}{L:List Zae}{Y:Nat}{fl bd m p h0 f0 d0:Value}{t:Int}(h:Sep w (r::a::b::Zaa Y 146 (Zd0 fl bd m p h0 f0 d0 t)::L))(m' p' h' f' d':Value):
  Hid (Sep (((((w.setCell ⟨Y,3,none⟩ m').setCell ⟨Y,4,none⟩ p').setCell ⟨Y,5,none⟩ h').setCell ⟨Y,6,none⟩ f').setCell ⟨Y,7,none⟩ d') (r::a::b::Zaa Y 146 (Zd0 fl bd m' p' h' f' d' t)::L))/\
  (((((w.setCell ⟨Y,3,none⟩ m').setCell ⟨Y,4,none⟩ p').setCell ⟨Y,5,none⟩ h').setCell ⟨Y,6,none⟩ f').setCell ⟨Y,7,none⟩ d').cell? ⟨Y,0,none⟩=some fl/\
  (((((w.setCell ⟨Y,3,none⟩ m').setCell ⟨Y,4,none⟩ p').setCell ⟨Y,5,none⟩ h').setCell ⟨Y,6,none⟩ f').setCell ⟨Y,7,none⟩ d').cell? ⟨Y,1,none⟩=some bd:=by
 have h3:Sep _ (r::a::b::Zaa Y 146 (Zd0 fl bd m' p' h' f' d' t)::L):=((((h.set_ (i:=3) rfl 3 m').set_ (i:=3) rfl 4 p').set_ (i:=3) rfl 5 h').set_ (i:=3) rfl 6 f').set_ (i:=3) rfl 7 d'
 have k:=h3.at_ (i:=3) rfl
 exact⟨Hd h3,k.1 0,k.1 1⟩
theorem ga_whole {w w0:World}{F:List Zae}{io g kb Li LM LM' St CM JM Y fc dc rc cm:Nat}{FA D RA:Option Addr}{log:Value}(hP:Pow w0)(hio:F[io]? =some (Zel w0))
  (h:Sep w (Zaa g 120 (Za7 kb (.slice RA 1 rc) Li St CM JM 0 log)::Zak CM (Zaw (.pointer (some ⟨Y,0,none⟩))) cm::Zaa Y 146 (Zdl (.slice FA 3 fc) (.slice D 1 dc))::Zad 41 2 (.slice FA 3 fc) 3 (fvs Ziu)::Zad 5 1 (.slice D 1 dc) 1 (bs [120])::
   Zaa Li 193 #[.int .i64 10,.int .i64 10,.map (some LM),.map (some LM')]::Zak LM' #[] 0::Zak LM #[] 0::Zaa St 203 #[.slice none 0 0]::Zad 47 3 (.slice RA 1 rc) 1 rtV::Zak JM #[] 0::F)):
  CA 167 #[.pointer (some ⟨g,0,none⟩),.int .i64 1] w fun e w'=>e=.returned (.tuple #[])/\∃fa fc' ba bc' ad jc,Sep w' (Zaa g 120 (Za7 kb (.slice RA 1 rc) Li St CM JM 1 log)::Zak CM (Zaw (.pointer (some ⟨Y,0,none⟩))) cm::
   Zaa Y 146 (Zd0 (.slice FA 3 fc) (.slice D 1 dc) (.string ⟨#[80,79,83,84]⟩) (.string ⟨#[47,112]⟩) (.string ⟨#[104]⟩) (.slice fa 0 fc') (.slice ba 1 bc') 0)::Zak JM (Zaw (.agg #[.int .i64 1,.string ⟨#[97,108,108]⟩,.slice (some ad) 39 jc])) 1::Zir ad Zf1::F):=by
 obtain⟨dg,rfl,-⟩:=h.rowAt (i:=4) rfl (by decide)
 obtain⟨rg,rfl,hrt,hrc⟩:=rt_row h (i:=9) rfl
 have kG:=h.at_ (i:=0) rfl
 have kY:=h.at_ (i:=2) rfl
 have ql:=Zfg h (i:=1) rfl
 have n1:=h.ne_ (i:=0) (i':=2) rfl rfl (by decide)
 have n2:=Ne.symm n1
 have H:=Hd h
 unfold Za7 at kG
 unfold Zdl Zd0 at kY
 clear h hrt
 go_enter func167,ntmps167
 go_wp2_with fail
 obtain⟨w1,hw1⟩:=exl (w.setCell ⟨Y,8,none⟩ (.int .i64 0))
 have h1:=H.out.set_ (i:=2) rfl 8 (.int .i64 0)
 rw[hw1]at h1⊢
 change Sep w1 (_::_::Zaa Y _ (Zdl (.slice FA 3 fc) (.slice (some ⟨dg,0,none⟩) 1 dc))::_)at h1
 clear kG kY ql n1 n2 H hw1
 have kG:=h1.at_ (i:=0) rfl
 have kY:=h1.at_ (i:=2) rfl
 have HF:=Hd (Zab.of_own (h1.drew.row (i:=3) rfl))
 have HD:=Hd (Zag h1.drew (i:=4) rfl)
 have H1:=Hd h1.drew
 unfold Za7 at kG
 unfold Zdl Zd0 at kY
 clear h1
 go_wp2_with fail
 have f0:w1.cell? ⟨Y,0,none⟩=some (.slice FA 3 fc):=kY.1 0
 have f1:w1.cell? ⟨Y,1,none⟩=some (.slice (some ⟨dg,0,none⟩) 1 dc):=kY.1 1
 go_region_held3 (fun w'=>w'.cell? ⟨Y,0,none⟩=some (.slice FA 3 fc)/\w'.cell? ⟨Y,1,none⟩=some (.slice (some ⟨dg,0,none⟩) 1 dc)) (first | (with_reducible exact⟨f0,f1⟩) | (with_reducible exact⟨g0,g1⟩) | (with_reducible exact⟨k0,k1⟩) | go_keep)
  (first | (go_at_call 12;refine(fask_C HF.out HD.out).mono ?_;rintro e w2 ⟨fa,fc2,ba,bc2,rfl,hown2,hb2⟩;have h2:=H1.out.newRow hb2 hown2;have kY2:=h2.at_ (i:=3) rfl;have g0:w2.cell? ⟨Y,0,none⟩=some (.slice FA 3 fc):=kY2.1 0;have g1:w2.cell? ⟨Y,1,none⟩=some (.slice (some ⟨dg,0,none⟩) 1 dc):=kY2.1 1;obtain⟨H3,k0,k1⟩:=Zkd h2 (.string ⟨#[80,79,83,84]⟩) (.string ⟨#[47,112]⟩) (.string ⟨#[104]⟩) (.slice fa 0 fc2) (.slice ba 1 bc2);unfold Zdl Zd0 at kY2;clear h2 hown2 hb2))
 obtain⟨w3,hw3⟩:=exl ((((((w2.setCell ⟨Y,3,none⟩ (.string ⟨#[80,79,83,84]⟩)).setCell ⟨Y,4,none⟩ (.string ⟨#[47,112]⟩)).setCell ⟨Y,5,none⟩ (.string ⟨#[104]⟩)).setCell ⟨Y,6,none⟩ (.slice fa 0 fc2)).setCell ⟨Y,7,none⟩ (.slice ba 1 bc2)))
 have h3:=H3.out
 rw[hw3]at h3⊢
 clear kG kY f0 f1 g0 g1 k0 k1 kY2 HF HD H1 H3 hw3
 have kG:=h3.at_ (i:=1) rfl
 have kY:=h3.at_ (i:=3) rfl
 have H3:=Hd (((h3.drew.front 8 rfl).front 8 rfl).front 8 rfl)
 have p0:w3.cell? ⟨g,2,none⟩=some (.pointer (some ⟨Li,0,none⟩)):=kG.1 2
 have p1:w3.cell? ⟨Y,5,none⟩=some (.string ⟨#[104]⟩):=kY.1 5
 have p2:w3.cell? ⟨g,7,none⟩=some (.int .i64 0):=kG.1 7
 have pl:=h3.at_ (i:=1) rfl |>.2.2
 have pl2:=h3.at_ (i:=3) rfl |>.2.2
 clear kG kY h3
 go_wp2
 go_region_held3 (fun w'=>w'.cell? ⟨g,2,none⟩=some (.pointer (some ⟨Li,0,none⟩))/\w'.cell? ⟨Y,5,none⟩=some (.string ⟨#[104]⟩)/\w'.cell? ⟨g,7,none⟩=some (.int .i64 0)) (first | (with_reducible exact⟨p0,p1,p2⟩) | (with_reducible exact⟨s0,s1,s2⟩) | go_keep)
  (first | (go_at_call 231;refine(li_ask H3.out).mono ?_;rintro e w4 ⟨rfl,h4⟩;have kG4:=h4.at_ (i:=1) rfl;have kY4:=h4.at_ (i:=3) rfl;have s0:w4.cell? ⟨g,2,none⟩=some (.pointer (some ⟨Li,0,none⟩)):=kG4.1 2;have s1:w4.cell? ⟨Y,5,none⟩=some (.string ⟨#[104]⟩):=kY4.1 5;have s2:w4.cell? ⟨g,7,none⟩=some (.int .i64 0):=kG4.1 7;have s3:w4.cell? ⟨g,1,none⟩=some (.slice (some ⟨rg,0,none⟩) 1 rc):=kG4.1 1;have s4:w4.cell? ⟨Y,4,none⟩=some (.string ⟨#[47,112]⟩):=kY4.1 4;have HT:=Hd (rt_rowg h4.drew (i:=7) rfl);have H4:=Hd h4.drew;have l4:=kG4.2.2;have l5:=kY4.2.2;clear h4 kG4 kY4))
 clear p0 p1 p2 pl pl2 H3 s0 s2
 go_wp2
 go_region_held3 (fun w'=>w'.cell? ⟨g,1,none⟩=some (.slice (some ⟨rg,0,none⟩) 1 rc)/\w'.cell? ⟨Y,5,none⟩=some (.string ⟨#[104]⟩)/\w'.cell? ⟨Y,4,none⟩=some (.string ⟨#[47,112]⟩)) (first | (with_reducible exact⟨s3,s1,s4⟩) | (with_reducible exact⟨t3,t1,t4⟩) | go_keep)
  (first | (go_at_call 232;refine(rt_rest rg rc hrc _ HT.out).mono ?_;rintro e w5 ⟨rfl,hb5⟩;have h5:=H4.out.below hb5;have kG5:=h5.at_ (i:=1) rfl;have kY5:=h5.at_ (i:=3) rfl;have t3:w5.cell? ⟨g,1,none⟩=some (.slice (some ⟨rg,0,none⟩) 1 rc):=kG5.1 1;have t1:w5.cell? ⟨Y,5,none⟩=some (.string ⟨#[104]⟩):=kY5.1 5;have t4:w5.cell? ⟨Y,4,none⟩=some (.string ⟨#[47,112]⟩):=kY5.1 4;have H5:=Hd h5;have l6:=kG5.2.2;have l7:=kY5.2.2;clear h5 kG5 kY5 hb5))
 clear s1 s3 s4 l4 l5 t1 t3 t4 HT H4
 have kG:=H5.out.at_ (i:=1) rfl
 have kY:=H5.out.at_ (i:=3) rfl
 have u0:w5.cell? ⟨g,3,none⟩=some (.pointer (some ⟨St,0,none⟩)):=kG.1 3
 have u1:w5.cell? ⟨Y,3,none⟩=some (.string ⟨#[80,79,83,84]⟩):=kY.1 3
 have u2:w5.cell? ⟨Y,4,none⟩=some (.string ⟨#[47,112]⟩):=kY.1 4
 have u3:w5.cell? ⟨Y,5,none⟩=some (.string ⟨#[104]⟩):=kY.1 5
 have u4:w5.cell? ⟨Y,6,none⟩=some (.slice fa 0 fc2):=kY.1 6
 have u5:w5.cell? ⟨Y,7,none⟩=some (.slice ba 1 bc2):=kY.1 7
 have u6:w5.cell? ⟨g,7,none⟩=some (.int .i64 0):=kG.1 7
 have h5:=H5.out.newBlk 69 #[.int .i64 0,.slice none 0 0,.slice none 0 0]
 have kG5:=h5.at_ (i:=2) rfl
 have kY5:=h5.at_ (i:=4) rfl
 have x0:(w5.alloc (.cells #[.int .i64 0,.slice none 0 0,.slice none 0 0] 69)).cell? ⟨g,3,none⟩=some (.pointer (some ⟨St,0,none⟩)):=kG5.1 3
 have x1:(w5.alloc (.cells #[.int .i64 0,.slice none 0 0,.slice none 0 0] 69)).cell? ⟨Y,3,none⟩=some (.string ⟨#[80,79,83,84]⟩):=kY5.1 3
 have x2:(w5.alloc (.cells #[.int .i64 0,.slice none 0 0,.slice none 0 0] 69)).cell? ⟨Y,4,none⟩=some (.string ⟨#[47,112]⟩):=kY5.1 4
 have x3:(w5.alloc (.cells #[.int .i64 0,.slice none 0 0,.slice none 0 0] 69)).cell? ⟨Y,5,none⟩=some (.string ⟨#[104]⟩):=kY5.1 5
 have x4:(w5.alloc (.cells #[.int .i64 0,.slice none 0 0,.slice none 0 0] 69)).cell? ⟨Y,6,none⟩=some (.slice fa 0 fc2):=kY5.1 6
 have x5:(w5.alloc (.cells #[.int .i64 0,.slice none 0 0,.slice none 0 0] 69)).cell? ⟨Y,7,none⟩=some (.slice ba 1 bc2):=kY5.1 7
 have x6:(w5.alloc (.cells #[.int .i64 0,.slice none 0 0,.slice none 0 0] 69)).cell? ⟨g,7,none⟩=some (.int .i64 0):=kG5.1 7
 have H6:=Hd (h5.drew.front 7 rfl)
 have H6A:=Hd (H5.out.drew.front 6 rfl)
 clear kG kY H5 h5 kG5 kY5
 go_wp2
 go_region_held3 (fun w'=>w'.cell? ⟨g,3,none⟩=some (.pointer (some ⟨St,0,none⟩))/\w'.cell? ⟨Y,3,none⟩=some (.string ⟨#[80,79,83,84]⟩)/\w'.cell? ⟨Y,4,none⟩=some (.string ⟨#[47,112]⟩)/\w'.cell? ⟨Y,5,none⟩=some (.string ⟨#[104]⟩)/\w'.cell? ⟨Y,6,none⟩=some (.slice fa 0 fc2)/\w'.cell? ⟨Y,7,none⟩=some (.slice ba 1 bc2)/\w'.cell? ⟨g,7,none⟩=some (.int .i64 0)) (first | (with_reducible exact⟨u0,u1,u2,u3,u4,u5,u6⟩) | (with_reducible exact⟨x0,x1,x2,x3,x4,x5,x6⟩) | (with_reducible exact⟨v0,v1,v2,v3,v4,v5,v6⟩) | (with_reducible exact⟨z0,z1,z2,z3,z4,z5,z6⟩) | (with_reducible exact⟨y0,y1,y2,y3,y4,y5,y6⟩) | go_keep)
  (first
  | (go_at_call 233;refine(Zyg H6A.out).mono ?_;rintro e w6 ⟨rfl,h6⟩;have kG6:=h6.at_ (i:=1) rfl;have kY6:=h6.at_ (i:=3) rfl;have v0:w6.cell? ⟨g,3,none⟩=some (.pointer (some ⟨St,0,none⟩)):=kG6.1 3;have v1:w6.cell? ⟨Y,3,none⟩=some (.string ⟨#[80,79,83,84]⟩):=kY6.1 3;have v2:w6.cell? ⟨Y,4,none⟩=some (.string ⟨#[47,112]⟩):=kY6.1 4;have v3:w6.cell? ⟨Y,5,none⟩=some (.string ⟨#[104]⟩):=kY6.1 5;have v4:w6.cell? ⟨Y,6,none⟩=some (.slice fa 0 fc2):=kY6.1 6;have v5:w6.cell? ⟨Y,7,none⟩=some (.slice ba 1 bc2):=kY6.1 7;have v6:w6.cell? ⟨g,7,none⟩=some (.int .i64 0):=kG6.1 7;have h8:=h6.newBlk 69 #[.int .i64 0,.slice none 0 0,.slice none 0 0];have kR8:=h8.at_ (i:=0) rfl;have kG8:=h8.at_ (i:=2) rfl;have kY8:=h8.at_ (i:=4) rfl;have z0:(w6.alloc (.cells #[.int .i64 0,.slice none 0 0,.slice none 0 0] 69)).cell? ⟨g,3,none⟩=some (.pointer (some ⟨St,0,none⟩)):=kG8.1 3;have z1:(w6.alloc (.cells #[.int .i64 0,.slice none 0 0,.slice none 0 0] 69)).cell? ⟨Y,3,none⟩=some (.string ⟨#[80,79,83,84]⟩):=kY8.1 3;have z2:(w6.alloc (.cells #[.int .i64 0,.slice none 0 0,.slice none 0 0] 69)).cell? ⟨Y,4,none⟩=some (.string ⟨#[47,112]⟩):=kY8.1 4;have z3:(w6.alloc (.cells #[.int .i64 0,.slice none 0 0,.slice none 0 0] 69)).cell? ⟨Y,5,none⟩=some (.string ⟨#[104]⟩):=kY8.1 5;have z4:(w6.alloc (.cells #[.int .i64 0,.slice none 0 0,.slice none 0 0] 69)).cell? ⟨Y,6,none⟩=some (.slice fa 0 fc2):=kY8.1 6;have z5:(w6.alloc (.cells #[.int .i64 0,.slice none 0 0,.slice none 0 0] 69)).cell? ⟨Y,7,none⟩=some (.slice ba 1 bc2):=kY8.1 7;have z6:(w6.alloc (.cells #[.int .i64 0,.slice none 0 0,.slice none 0 0] 69)).cell? ⟨g,7,none⟩=some (.int .i64 0):=kG8.1 7;have H7:=Hd h8;have l8:=kG6.2.2;have l9:=kY6.2.2;clear h6 h8 kG6 kY6 kG8 kY8)
  | (go_at_call 233;refine(Zyg H6.out).mono ?_;rintro e w6 ⟨rfl,h6⟩;have kR6:=h6.at_ (i:=0) rfl;have kG6:=h6.at_ (i:=2) rfl;have kY6:=h6.at_ (i:=4) rfl;have v0:w6.cell? ⟨g,3,none⟩=some (.pointer (some ⟨St,0,none⟩)):=kG6.1 3;have v1:w6.cell? ⟨Y,3,none⟩=some (.string ⟨#[80,79,83,84]⟩):=kY6.1 3;have v2:w6.cell? ⟨Y,4,none⟩=some (.string ⟨#[47,112]⟩):=kY6.1 4;have v3:w6.cell? ⟨Y,5,none⟩=some (.string ⟨#[104]⟩):=kY6.1 5;have v4:w6.cell? ⟨Y,6,none⟩=some (.slice fa 0 fc2):=kY6.1 6;have v5:w6.cell? ⟨Y,7,none⟩=some (.slice ba 1 bc2):=kY6.1 7;have v6:w6.cell? ⟨g,7,none⟩=some (.int .i64 0):=kG6.1 7;have h8:=((h6.set_ (i:=0) rfl 0 (.int .i64 0)).set_ (i:=0) rfl 1 (.slice none 0 0)).set_ (i:=0) rfl 2 (.slice none 0 0);have kG8:=h8.at_ (i:=2) rfl;have kY8:=h8.at_ (i:=4) rfl;have y0:(((w6.setCell ⟨w5.heap.size,0,none⟩ (.int .i64 0)).setCell ⟨w5.heap.size,1,none⟩ (.slice none 0 0)).setCell ⟨w5.heap.size,2,none⟩ (.slice none 0 0)).cell? ⟨g,3,none⟩=some (.pointer (some ⟨St,0,none⟩)):=kG8.1 3;have y1:(((w6.setCell ⟨w5.heap.size,0,none⟩ (.int .i64 0)).setCell ⟨w5.heap.size,1,none⟩ (.slice none 0 0)).setCell ⟨w5.heap.size,2,none⟩ (.slice none 0 0)).cell? ⟨Y,3,none⟩=some (.string ⟨#[80,79,83,84]⟩):=kY8.1 3;have y2:(((w6.setCell ⟨w5.heap.size,0,none⟩ (.int .i64 0)).setCell ⟨w5.heap.size,1,none⟩ (.slice none 0 0)).setCell ⟨w5.heap.size,2,none⟩ (.slice none 0 0)).cell? ⟨Y,4,none⟩=some (.string ⟨#[47,112]⟩):=kY8.1 4;have y3:(((w6.setCell ⟨w5.heap.size,0,none⟩ (.int .i64 0)).setCell ⟨w5.heap.size,1,none⟩ (.slice none 0 0)).setCell ⟨w5.heap.size,2,none⟩ (.slice none 0 0)).cell? ⟨Y,5,none⟩=some (.string ⟨#[104]⟩):=kY8.1 5;have y4:(((w6.setCell ⟨w5.heap.size,0,none⟩ (.int .i64 0)).setCell ⟨w5.heap.size,1,none⟩ (.slice none 0 0)).setCell ⟨w5.heap.size,2,none⟩ (.slice none 0 0)).cell? ⟨Y,6,none⟩=some (.slice fa 0 fc2):=kY8.1 6;have y5:(((w6.setCell ⟨w5.heap.size,0,none⟩ (.int .i64 0)).setCell ⟨w5.heap.size,1,none⟩ (.slice none 0 0)).setCell ⟨w5.heap.size,2,none⟩ (.slice none 0 0)).cell? ⟨Y,7,none⟩=some (.slice ba 1 bc2):=kY8.1 7;have y6:(((w6.setCell ⟨w5.heap.size,0,none⟩ (.int .i64 0)).setCell ⟨w5.heap.size,1,none⟩ (.slice none 0 0)).setCell ⟨w5.heap.size,2,none⟩ (.slice none 0 0)).cell? ⟨g,7,none⟩=some (.int .i64 0):=kG8.1 7;have H7:=Hd h8;have l8:=kG6.2.2;have l9:=kY6.2.2;clear h6 h8 kG6 kY6 kG8 kY8))
 all_goals
  have h7:=H7.out
  first
   | (obtain⟨w7,hw7⟩:∃w7,w6.alloc (.cells #[.int .i64 0,.slice none 0 0,.slice none 0 0] 69)=w7:=⟨_,rfl⟩;rw[hw7]at h7⊢)
   | (obtain⟨w7,hw7⟩:∃w7,((w6.setCell ⟨w5.heap.size,0,none⟩ (.int .i64 0)).setCell ⟨w5.heap.size,1,none⟩ (.slice none 0 0)).setCell ⟨w5.heap.size,2,none⟩ (.slice none 0 0)=w7:=⟨_,rfl⟩;rw[hw7]at h7⊢)
  clear u0 u1 u2 u3 u4 u5 u6 x0 x1 x2 x3 x4 x5 x6 v0 v1 v2 v3 v4 v5 v6 l6 l7 l8 l9 H6 H6A H7
  try clear z0 z1 z2 z3 z4 z5 z6
  try clear y0 y1 y2 y3 y4 y5 y6
  try clear kR6
  try clear kR8
  clear hw7
  have kG:=h7.at_ (i:=2) rfl
  have kY:=h7.at_ (i:=4) rfl
  have H7:=Hd h7
  have qe:=Z0n
  unfold Za7 at kG
  unfold Zd0 at kY
  clear h7
  go_wp2_with fail
  have h8:=H7.out.newBlk 25 #[.string ⟨#[80,79,83,84]⟩,.string ⟨#[47,112]⟩,.string ⟨#[104]⟩,.slice fa 0 fc2,.slice ba 1 bc2]
  have hP8:=hP.next (h8.old (i:=io+10) hio)
  have HR:=Hd (Zag h8 (i:=2) rfl)
  have H8:=Hd h8
  clear h8 kG kY H7
  refine(Zzt [80,79,83,84] [47,112] [104] [] [120] Zdn.1 fa 0 fc2 rfl ba 1 bc2 rfl _ hP8 ⟨rfl,fun h=>by cases h⟩ HR.out).mono ?_
  rintro e w9 ⟨v,rfl,ha⟩
  obtain⟨ad,jc,rfl,hjc,h9⟩:=H8.out.newByt ha
  change Sep w9 (Zir ad Zf1::_)at h9
  have e39:(Zjt [80,79,83,84] [47,112] [104] [] [120]).length=39:=Zdn.2
  rw[e39]
  clear ha hP8 HR H8 hjc e39
  have kG:=h9.at_ (i:=4) rfl
  have H9:=Hd h9
  unfold Za7 at kG
  clear h9
  go_wp2
  obtain⟨w10,hw10⟩:=exl (w9.setCell ⟨g,6,none⟩ (.int .i64 1))
  have h10:=H9.out.set_ (i:=4) rfl 6 (.int .i64 1)
  rw[hw10]at h10⊢
  change Sep w10 (_::_::_::_::Zaa g _ (Za7 kb (.slice (some ⟨rg,0,none⟩) 1 rc) Li St CM JM 1 log)::_)at h10
  clear kG H9 hw10
  have kG:=h10.at_ (i:=4) rfl
  have qm:=upd_job (v:=(.agg #[.int .i64 1,.string ⟨#[97,108,108]⟩,.slice (some ad) 39 jc])) h10.drew (i:=10) rfl
  have h11:=h10.drew.putMap (i:=10) (c':=1) (es':=Zaw (.agg #[.int .i64 1,.string ⟨#[97,108,108]⟩,.slice (some ad) 39 jc])) rfl
  have H11:=Hd (((((((((h11.drop_ 1).drop_ 1).drop_ 1).drop_ 4).drop_ 4).drop_ 4).front 4 rfl).front 4 rfl).front 4 rfl)
  unfold Za7 at kG
  clear h10 h11
  go_region
  go_wp2
  refine bodyPost_end (results_none rfl _ _ _) rfl ?_
  exact⟨rfl,fa,fc2,ba,bc2,ad,jc,H11.out.front 4 rfl⟩
theorem vg_came {w:World}{F:List Zae}{g kb C S M MS X Li St CM JM Y fn fc n bc m iw k:Nat}{FA BA:Option Addr}{b:List UInt8}{R log ord inn out part evs q:Value}{ow ci co jl last:Int}{began wt en:Bool}{gl cl sl:List (Int×Value)}{Q:World->Prop}
  (hk:k < 1000) (hn:n<=900) (hm:m<=2000) (hw1:1000<=iw+m) (hw2:iw+m<=10000) (hl:sid k<=last) (hgv:Za8 gl (sid k)=some (ptr Y)) (hcv:Za8 cl (sid k)=some (ptr X)) (hsv:Za8 sl (sid k)=some (.int .i64 2))
  (h:Sep w (Zad 5 1 (.slice BA n bc) n (bs b)::Zaa kb 200 (Zaf C S M ord inn out ((iw:Nat):Int) ow ((n+m:Nat):Int) began part evs)::Zan Zat M cl::Zaa X 313 (Zbn ci co ((n:Nat):Int) q wt en)::Zaa S 254 (Zbf MS last)::Zan Zat MS sl::
   Zaa g 120 (Za7 kb R Li St CM JM jl log)::Zan Zat CM gl::Zaa Y 146 (Zdl (.slice FA fn fc) (.slice none 0 0))::F))
  (hQ:∀w2 D dc,Sep w2 (Zad 5 1 (.slice D n dc) n (bs b)::Zad 5 1 (.slice BA n bc) n (bs b)::Zaa kb 200 (Zaf C S M ord inn out ((iw:Nat):Int) ow ((m:Nat):Int) began part evs)::Zan Zat M cl::Zaa X 313 (Zbn ci co 0 q wt en)::Zaa S 254 (Zbf MS last)::Zan Zat MS sl::
   Zaa g 120 (Za7 kb R Li St CM JM jl log)::Zan Zat CM gl::Zaa Y 146 (Zdl (.slice FA fn fc) (.slice D n dc))::F)->CA 167 #[.pointer (some ⟨g,0,none⟩),.int .i64 (sid k)] w2 fun e w'=>e=.returned (.tuple #[])/\Q w'):
  CA 112 #[.pointer (some ⟨g,0,none⟩),.agg (evV 2 (sid k) 0 (.slice none 0 0) (.slice BA n bc) true)] w fun e w'=>e=.returned (.tuple #[])/\Q w':=by
 have h1:=h.newBlk 215 (evV 2 (sid k) 0 (.slice none 0 0) (.slice BA n bc) true)
 unfold evV at h1
 have kX:=h1.at_ (i:=0) rfl
 have kG:=h1.at_ (i:=7) rfl
 have ql:(Instr.lookup 116 (.map (some CM)) (.int .i64 (sid k)) false).run prog _=.ok (.pointer (some ⟨Y,0,none⟩)) _:=h1.drew.lookV (P:=prog) Zja (i:=8) rfl underlying116 underlying3 hgv false
 have HU:=Hd (fun(w3:World) F3 h3=>vu_used (w:=w3) (F:=F3) (kb:=kb) (C:=C) (S:=S) (M:=M) (MS:=MS) (X:=X) (ord:=ord) (inn:=inn) (out:=out) (part:=part) (evs:=evs) (q:=q) (ow:=ow) (ci:=ci) (co:=co) (began:=began) (wt:=wt) (en:=en) hk hn hm hw1 hw2 hl hcv hsv h3)
 have n0:¬(1000:Int) < ((n:Nat):Int):=by omega
 have en0:wrap64 ((n:Nat):Int)=((n:Nat):Int):=by unfold wrap64;omega
 have hnB:=Hd (show n<=1000000 by omega)
 have H1:=Hd h1
 have HQ:=Hd hQ
 obtain⟨id,hid⟩:=exl (sid k)
 rw[hid]at HQ HU H1 kX kG ql⊢
 unfold Za7 at kG
 clear h h1 hQ hk hn hm hw1 hw2 hl hgv hcv hsv hid
 unfold evV
 go_enter func112,ntmps112
 go_wp2
 go_region
 obtain⟨w2,hw2⟩:=exl ((w.alloc (.cells #[.int .i64 2,.int .i64 id,.int .i64 0,.slice none 0 0,.slice BA n bc,.bool true] 215)).drew)
 have h2:=H1.out.drew
 rw[hw2]at h2⊢
 clear kX kG ql H1 hw2
 have kX:=h2.at_ (i:=0) rfl
 have kY:=h2.at_ (i:=9) rfl
 have H2:=Hd h2
 unfold Zdl Zd0 at kY
 clear h2
 go_wp2
 go_quiet (fail)
 obtain⟨w3,hw3⟩:=exl (w2.drewN nq)
 have h3:=(H2.out.drewN nq)
 rw[hw3]at h3⊢
 have h4:=h3.nilRow 5 1
 clear kX kY H2 hw3 h3
 have kX:=h4.at_ (i:=1) rfl
 have kY:=h4.at_ (i:=10) rfl
 have n1:=h4.ne_ (i:=1) (i':=10) rfl rfl (by decide)
 have n2:=Ne.symm n1
 have HR:=Hd (Zag h4.drew (i:=2) rfl)
 have H4:=Hd h4.drew
 unfold Zdl Zd0 at kY
 clear h4
 go_wp2
 go_region_law (refine Zcq rfl _ _ 23 5 rfl underlying23 Zbz rfl (by decide) (by decide) _ 0 [] H4.out (i:=0) rfl (by simp[Act.eval,Act.put]) BA n bc (bs b) HR.out (Zcj _) (by simp[Act.eval,Act.put]) (by have:=hnB.out;omega) ?_;intro D dc w5 h5 _;rw[Nat.zero_add]at h5⊢;rw[List.nil_append]at h5;have kX5:=h5.at_ (i:=1) rfl;have kY5:=h5.at_ (i:=10) rfl;have H5:=Hd h5;unfold Zdl Zd0 at kY5;clear h5)
 all_goals
  obtain⟨w6,hw6⟩:=exl (w5.setCell ⟨Y,1,none⟩ (.slice D n dc))
  have h6:=H5.out.set_ (i:=10) rfl 1 (.slice D n dc)
  rw[hw6]at h6⊢
  change Sep w6 (Zad _ 1 (.slice D n dc) n (bs b)::_::_::_::_::_::_::_::_::_::Zaa Y _ (Zdl (.slice FA fn fc) (.slice D n dc))::_)at h6
  clear kX kX5 kY kY5 n1 n2 HR H4 H5 hw6 hnB
  have f0:w6.cell? ⟨g,0,none⟩=some (.pointer (some ⟨kb,0,none⟩)):=(h6.at_ (i:=8) rfl).1 0
  have f1:w6.cell? ⟨w.heap.size,1,none⟩=some (.int .i64 id):=(h6.at_ (i:=1) rfl).1 1
  have f2:w6.cell? ⟨w.heap.size,4,none⟩=some (.slice BA n bc):=(h6.at_ (i:=1) rfl).1 4
  have l1:=(h6.at_ (i:=8) rfl).2.2
  have l2:=(h6.at_ (i:=1) rfl).2.2
  have h7:=Sep.ordN h6.drew 11 [3,4,5,6,7,0,2,8,9,10,1] rfl (by decide)
  simp only[Zbo,Zbd,Zam]at h7
  have H6:=Hd h7
  clear h6 h7
  go_wp2
  go_region_held3 (fun w'=>w'.cell? ⟨g,0,none⟩=some (.pointer (some ⟨kb,0,none⟩))/\w'.cell? ⟨w.heap.size,1,none⟩=some (.int .i64 id)/\w'.cell? ⟨w.heap.size,4,none⟩=some (.slice BA n bc)) (first | (with_reducible exact⟨f0,f1,f2⟩) | (with_reducible exact⟨g0,g1,g2⟩) | go_keep)
   (first | (go_at_call 166;refine(HU.out _ _ H6.out).mono ?_;rintro e w7 ⟨rfl,h7⟩;have kX7:=h7.at_ (i:=10) rfl;have kG7:=h7.at_ (i:=7) rfl;have g0:w7.cell? ⟨g,0,none⟩=some (.pointer (some ⟨kb,0,none⟩)):=kG7.1 0;have g1:w7.cell? ⟨w.heap.size,1,none⟩=some (.int .i64 id):=kX7.1 1;have g2:w7.cell? ⟨w.heap.size,4,none⟩=some (.slice BA n bc):=kX7.1 4;have H7:=Hd h7;clear h7 kG7))
  have h8:=Sep.ordN H7.out 11 [5,6,0,1,2,3,4,7,8,9] rfl (by decide)
  simp only[Zbo,Zbd,Zam]at h8
  have H8:=Hd h8
  clear f0 f1 f2 l1 l2 g0 g1 g2 H6 h8
  go_wp2_with fail
  refine(HQ.out _ _ _ H8.out).mono ?_
  rintro e w8 ⟨rfl,hq⟩
  have H9:=Hd hq
  clear hq H8 H7 kX7
  go_wp2
  refine bodyPost_end (results_none rfl _ _ _) rfl ?_
  exact⟨rfl,H9.out⟩
end
end Go.Proofs.YtbgnggkgmeagkaaGreatDoor
