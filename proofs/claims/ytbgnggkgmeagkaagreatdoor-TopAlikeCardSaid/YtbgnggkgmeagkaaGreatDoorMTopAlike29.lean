/-
  A part of the proof of TopAlike: each theorem states its own conditions.
-/
import Derived.Test.YtbgnggkgmeagkaaGreatDoorMTopAlike28
set_option linter.unusedSimpArgs false
set_option linter.unusedVariables false
set_option maxRecDepth 100000
set_option maxHeartbeats 16000000
namespace Go.Proofs.YtbgnggkgmeagkaaGreatDoor
open Go.Proofs.Tryz
section
open Go.RowKit Go.Shelf
theorem Zu4 :(prog.info? 233).map (fun i=>(i.zero,i.size,i.bytes))=some (some (.agg #[.int .i64 0,.int .i64 0,.int .i64 0,.int .i64 0,.string ⟨#[]⟩,.string ⟨#[]⟩]),6,64):=by kernel_rfl
theorem Z0t {w:World}{L:List Zae}{i M Y c:Nat}(h:Sep w L)(hi:L[i]? =some (Zak M (Zaw (.pointer (some ⟨Y,0,none⟩))) c))(ty:TypeId):
  (Builtin.delete_ #[116,3] ty #[.map (some M),.int .i64 1]).run prog w=.ok (.tuple #[]) (putM w M #[] c):=
 by
  have e:(Zaw (.pointer (some ⟨Y,0,none⟩))).eraseIdxIfInBounds 0= #[]:=by simp[Zaw,Array.eraseIdxIfInBounds]
  have h1:=Zry (P:=prog) (t:=116) (k:=.int .i64 1) ty underlying116 underlying3 rfl (h.map_ hi) (i:=0) (v0:=.pointer (some ⟨Y,0,none⟩)) (by rfl)
  rw[e]at h1
  exact h1
theorem Z0b {w w0:World}{F:List Zae}{io g kb C S M MS X n c mc sc gg hh bc Li St CM JM Y cm:Nat}{A BA:Option Addr}{R inn part evs fl bd y5 y6 y7:Value}{xs:List UInt8}{iw un ci cu last:Int}{began:Bool}(hn:n<=900)(hP:Pow w0)(hio:F[io]? =some (Zel w0))
  (h:Sep w (Zaa g 120 (Za7 kb R Li St CM JM last (.slice none 0 0))::Zaa C 93 (Zai gg hh)::Zbw gg none 0 [] 4096::Zaa kb 200 (Zaf C S M (.slice none 0 0) inn (.slice A n c) iw 2000 un began part evs)::Zad 5 1 (.slice A n c) n (bs xs)::Zak M (Zaw (.pointer (some ⟨X,0,none⟩))) mc::
   Zaa X 313 (Zbn ci 2000 cu (.slice none 0 0) false false)::Zaa S 254 (Zbf MS 1)::Zak MS (Zaw (.int .i64 2)) sc::Zad 5 1 (.slice BA 4 bc) 4 (bs Zb6)::
   Zak CM (Zaw (.pointer (some ⟨Y,0,none⟩))) cm::Zaa Y 146 (Zd0 fl bd (.string ⟨#[80,79,83,84]⟩) (.string ⟨#[47,112]⟩) y5 y6 y7 0)::F)):
  CA 68 #[.pointer (some ⟨g,0,none⟩),.int .i64 1,.agg (Zdx 200 (.slice none 0 0) (.slice BA 4 bc))] w fun e w'=>e=.returned (.tuple #[])/\∃A' c' Q' OA oc log,Sep w' (Zaa g 120 (Za7 kb R Li St CM JM last log)::Zaa kb 200 (Zaf C S M (.slice OA 0 oc) inn (.slice A' (n+26) c') iw 1996 un began part evs)::Zad 5 1 (.slice A' (n+26) c') (n+26) (bs (xs++rsB))::Zad 3 1 (.slice OA 0 oc) 0 []::Zak M (Zaw (.pointer (some ⟨X,0,none⟩))) mc::
   Zaa X 313 (Zbn ci 1996 cu Q' false true)::Zaa S 254 (Zbf MS 1)::Zak MS (Zaw (.int .i64 4)) sc::F):=by
 have h0:=h.newBlk 69 (Zdx 200 (.slice none 0 0) (.slice BA 4 bc))
 obtain⟨W0,hW0⟩:=exl (w.alloc (.cells (Zdx 200 (.slice none 0 0) (.slice BA 4 bc)) 69))
 rw[hW0]at h0
 have kP:=h0.at_ (i:=0) rfl
 have kg:=h0.at_ (i:=1) rfl
 have ql:=Zfg h0 (i:=11) rfl
 have qd:=fun ty=>Z0t h0 (i:=11) rfl ty
 have H0:=Hd h0
 unfold Zdx at kP hW0
 unfold Za7 at kg
 clear h h0
 unfold Zdx
 go_enter func68,ntmps68
 go_upto_region 3 with fail
 obtain⟨w1,hw1⟩:=exl (putM W0 CM #[] cm)
 have h1:=H0.out.putMap (i:=11) rfl (es':= #[]) (c':=cm)
 rw[hw1]at h1⊢
 clear kP kg ql qd H0 hw1
 have kP:=h1.at_ (i:=0) rfl
 have hs1:=(((((((((h1.front 10 rfl).front 10 rfl).front 10 rfl).front 10 rfl).front 10 rfl).front 10 rfl).front 10 rfl).front 10 rfl).front 10 rfl).front 10 rfl
 have HT:=Hd (ga_say hn hP (io:=io+3) hio hs1)
 unfold Zdx at kP HT
 clear h1 hs1
 go_wp2_with fail
 refine Mo HT ?_
 rintro e w2 ⟨rfl,A2,c2,Q2,OA,oc,h2⟩
 clear kP HT
 have kg:=h2.at_ (i:=0) rfl
 have kP:=h2.at_ (i:=9) rfl
 have kY:=h2.at_ (i:=11) rfl
 have H2:=Hd h2
 unfold Za7 at kg
 unfold Zd0 at kY
 clear h2
 go_wp2_with fail
 have hwr:IntKind.i64.wrap 0=0:=by decide
 have f0:=kg.1 7
 have f1:=kP.1 0
 have f2:=kP.1 2
 have f3:=kY.1 3
 have f4:=kY.1 4
 have f5:=kY.1 8
 go_region_held3 (fun w'=>w'.cell? ⟨g,7,none⟩=some (.int .i64 0)/\w'.cell? ⟨w.heap.size,0,none⟩=some (.int .i64 200)/\w'.cell? ⟨w.heap.size,2,none⟩=some (.slice BA 4 bc)/\w'.cell? ⟨Y,3,none⟩=some (.string ⟨#[80,79,83,84]⟩)/\w'.cell? ⟨Y,4,none⟩=some (.string ⟨#[47,112]⟩)/\w'.cell? ⟨Y,8,none⟩=some (.int .i64 0))
  (first | (with_reducible exact⟨f0,f1,f2,f3,f4,f5⟩) | go_keep)
  (first
  | fail)
 go_upto_region 9 with fail
 obtain⟨w3,hw3⟩:=exl ((w2.alloc (.cells #[.int .i64 0,.int .i64 200,.int .i64 4,.int .i64 0,.string ⟨#[80,79,83,84]⟩,.string ⟨#[47,112]⟩] 233)).drew)
 have h3:=(H2.out.newBlk 233 #[.int .i64 0,.int .i64 200,.int .i64 4,.int .i64 0,.string ⟨#[80,79,83,84]⟩,.string ⟨#[47,112]⟩]).drew
 rw[hw3]at h3⊢
 clear kg kP kY f0 f1 f2 f3 f4 f5 hw3 H2
 have kE:=h3.at_ (i:=0) rfl
 have kg:=h3.at_ (i:=1) rfl
 have h4:=(h3.nilRow 233 6).drew.newBlk 233 #[.int .i64 0,.int .i64 200,.int .i64 4,.int .i64 0,.string ⟨#[80,79,83,84]⟩,.string ⟨#[47,112]⟩]
 have kg4:=((h3.newBlk 233 #[.int .i64 0,.int .i64 200,.int .i64 4,.int .i64 0,.string ⟨#[80,79,83,84]⟩,.string ⟨#[47,112]⟩])).at_ (i:=2) rfl
 have H4:=Hd h4
 unfold Za7 at kg kg4
 clear h3 h4
 go_wp2_with fail
 go_region_law (refine Zgr rfl _ _ 118 233 rfl underlying118 Zu4 rfl (by decide) (by decide) _ 0 [] H4.out (i:=1) rfl (by simp[Act.eval,Act.put]) _ _ (j:=0) rfl rfl (by intro u hu;simp at hu;rcases hu with rfl | rfl | rfl | rfl | rfl | rfl <;> rfl) (by simp[Act.eval,Act.put]) (by decide) ?_;intro A5 c5 w5 h5 _;have kg5:=h5.at_ (i:=3) rfl;have H5:=Hd h5;unfold Za7 at kg5;clear h5)
 all_goals
  go_wp2
  refine bodyPost_end (results_none rfl _ _ _) rfl ?_
  have h6:=H5.out.set_ (i:=3) rfl 8 (.slice A5 1 c5)
  exact⟨rfl,A2,c2,Q2,OA,oc,.slice A5 1 c5,(((((((h6.drop_ 0).drop_ 0).drop_ 0).drop_ 8).drop_ 8).drop_ 8).drop_ 8)⟩
theorem Zxz {cd last jl:Int}{dg blk bl xs fb:List UInt8}{tx:List Fld}(hC:Zrd cd dg){w w0:World}{F:List Zae}{io g kb C S M MS X Y n c oc gg hh bc Li St CM JM tc k ow co nl lc:Nat}{A OA TA LA:Option Addr}{ad:Addr}{R inn part evs fl bd y5 y6 y7:Value}{mm pp:ByteArray}{lx:List Value}{cl sl gl:List (Int×Value)}{iw un ci cu:Int}{began:Bool}(hP:Pow w0)(hio:F[io]? =some (Zel w0))(hk:k < 1000)(hl:sid k<=last)(hcv:Za8 cl (sid k)=some (ptr X))(hsv:Za8 sl (sid k)=some (.int .i64 2))(hgv:Za8 gl (sid k)=some (ptr Y))(hsd:(sl.map (·.1)).Nodup)(hgd:(gl.map (·.1)).Nodup)(hn:n<=90000)(hnl:nl<=1000)
  (hf:∀f∈Zhu dg,fOk f) (hE:Ze7 (Zhu dg)=0) (hblk:Za0 4096 tx (Zhu dg)=blk) (hb0:0 < blk.length) (hb1:blk.length<=1024) (hfr:Zeq ⟨1,4,sid k,blk⟩=0) (hbl:bl.length=3) (how:3<=ow) (how2:ow<=2000) (hco:3<=co) (hco2:co<=2000) (hfd:Zeq ⟨0,1,sid k,bl⟩=0) (hfb:Zbh ⟨1,4,sid k,blk⟩++Zbh ⟨0,1,sid k,bl⟩=fb)
  (h:Sep w (Zaa g 120 (Za7 kb R Li St CM JM jl (.slice LA nl lc))::Zaa C 93 (Zai gg hh)::Zbw gg TA tc tx 4096::Zaa kb 200 (Zaf C S M (.slice OA 0 oc) inn (.slice A n c) iw ow un began part evs)::Zad 5 1 (.slice A n c) n (bs xs)::Zad 3 1 (.slice OA 0 oc) 0 []::Zan Zat M cl::
   Zaa X 313 (Zbn ci co cu (.slice none 0 0) false false)::Zaa S 254 (Zbf MS last)::Zan Zat MS sl::Zir ad bl::Zad 233 6 (.slice LA nl lc) nl lx::Zan Zat CM gl::Zaa Y 146 (Zd0 fl bd (.string mm) (.string pp) y5 y6 y7 0)::F)):
  CA 68 #[.pointer (some ⟨g,0,none⟩),.int .i64 (sid k),.agg (Zdx cd (.slice none 0 0) (.slice (some ad) 3 bc))] w fun e w'=>e=.returned (.tuple #[])/\∃A' c' OA' oc' TA' tc' LA' lc' lx',Sep w' (Zaa g 120 (Za7 kb R Li St CM JM jl (.slice LA' (nl+1) lc'))::Zaa C 93 (Zai gg hh)::Zbw gg TA' tc' (Zcs 4096 tx (Zhu dg)) 4096::Zaa kb 200 (Zaf C S M (.slice OA' 0 oc') inn (.slice A' (n+fb.length) c') iw ((ow-3:Nat):Int) un began part evs)::Zad 5 1 (.slice A' (n+fb.length) c') (n+fb.length) (bs (xs++fb))::Zad 3 1 (.slice OA' 0 oc') 0 []::Zan Zat M cl::
   Zaa S 254 (Zbf MS last)::Zan Zat MS (Ze3 sl (sid k) (.int .i64 4))::Zad 233 6 (.slice LA' (nl+1) lc') (nl+1) lx'::Zan Zat CM (Z1w gl (sid k))::F):=by
 have h0:=h.newBlk 69 (Zdx cd (.slice none 0 0) (.slice (some ad) 3 bc))
 obtain⟨W0,hW0⟩:=exl (w.alloc (.cells (Zdx cd (.slice none 0 0) (.slice (some ad) 3 bc)) 69))
 rw[hW0]at h0
 have kP:=h0.at_ (i:=0) rfl
 have kg:=h0.at_ (i:=1) rfl
 have ql:(Instr.lookup 116 (.map (some CM)) (.int .i64 (sid k)) false).run prog W0=.ok (.pointer (some ⟨Y,0,none⟩)) W0:=h0.lookV (P:=prog) Zja (i:=13) rfl underlying116 underlying3 hgv false
 obtain⟨es,cm,qd1,h1⟩:=h0.delL (P:=prog) Zja (i:=13) rfl 3 underlying116 underlying3 hgv hgd
 have qd:∀ty,(Builtin.delete_ #[116,3] ty #[.map (some CM),.int .i64 (sid k)]).run prog W0=.ok (.tuple #[]) (putM W0 CM es cm):=fun _=>qd1
 simp only[List.set_cons_succ,List.set_cons_zero]at h1
 have hs1:=Sep.ordN h1 12 [1,2,3,4,5,6,7,8,9,10,11,0] rfl (by decide)
 simp only[Zbo,Zbd,Zam,erS,erZ]at hs1
 have HT:=Hd (vg_say (bc:=bc) hC hP (io:=io+4) hio hk hl hcv hsv hsd hn hf hE hblk hb0 hb1 hfr hbl how how2 hco hco2 hfd hfb hs1)
 obtain⟨id,hid⟩:=exl (sid k)
 rw[hid]at ql qd HT⊢
 have H1:=Hd h1
 unfold Zdx at kP hW0 HT
 unfold Za7 at kg
 clear h h0 qd1 h1 hs1 hC hP hio hk hl hcv hsv hgv hsd hgd hn hf hE hblk hb0 hb1 hfr hbl how how2 hco hco2 hfd hfb hid
 unfold Zdx
 go_enter func68,ntmps68
 go_upto_region 3 with fail
 obtain⟨w1,hw1⟩:=exl (putM W0 CM es cm)
 rw[hw1]at H1 HT⊢
 clear kP kg ql qd hw1
 have kP:=H1.out.at_ (i:=0) rfl
 unfold Zdx at kP
 go_wp2_with fail
 refine Mo HT ?_
 rintro e w2 ⟨rfl,A2,c2,OA2,oc2,TA2,tc2,h2⟩
 clear kP HT H1
 have kg:=h2.at_ (i:=0) rfl
 have kP:=h2.at_ (i:=10) rfl
 have kY:=h2.at_ (i:=13) rfl
 have H2:=Hd h2
 unfold Za7 at kg
 unfold Zd0 at kY
 clear h2
 go_wp2_with fail
 have hwr:IntKind.i64.wrap 0=0:=by decide
 have f0:=kg.1 7
 have f1:=kP.1 0
 have f2:=kP.1 2
 have f3:=kY.1 3
 have f4:=kY.1 4
 have f5:=kY.1 8
 go_region_held3 (fun w'=>w'.cell? ⟨g,7,none⟩=some (.int .i64 0)/\w'.cell? ⟨w.heap.size,0,none⟩=some (.int .i64 cd)/\w'.cell? ⟨w.heap.size,2,none⟩=some (.slice (some ad) 3 bc)/\w'.cell? ⟨Y,3,none⟩=some (.string mm)/\w'.cell? ⟨Y,4,none⟩=some (.string pp)/\w'.cell? ⟨Y,8,none⟩=some (.int .i64 0))
  (first | (with_reducible exact⟨f0,f1,f2,f3,f4,f5⟩) | go_keep)
  (first
  | fail)
 obtain⟨w3,hw3⟩:=exl (w2.alloc (.cells #[.int .i64 0,.int .i64 cd,.int .i64 3,.int .i64 0,.string mm,.string pp] 233))
 have h3:=H2.out.newBlk 233 #[.int .i64 0,.int .i64 cd,.int .i64 3,.int .i64 0,.string mm,.string pp]
 rw[hw3]at h3⊢
 clear kg kP kY f0 f1 f2 f3 f4 f5 hw3 H2
 have kE:=h3.at_ (i:=0) rfl
 have H3:=Hd h3
 clear h3
 obtain⟨eb,heb⟩:=exl ((mm==(⟨#[]⟩:ByteArray)))
 cases eb
 all_goals
  go_upto_region 9 with fail
 all_goals
  first
  | (obtain⟨w4,hw4⟩:=exl (w3.drew)
     have h4:=H3.out.drew
     rw[hw4]at h4⊢
     obtain⟨m4,hm4⟩:∃q,mm=q:=⟨_,rfl⟩
     obtain⟨p5,hp5⟩:∃q,pp=q:=⟨_,rfl⟩
     rw[hm4,hp5]at h4)
  | (obtain⟨w4,hw4⟩:=exl (((w3.setCell ⟨w2.heap.size,4,none⟩ (.string ⟨#[45]⟩)).setCell ⟨w2.heap.size,5,none⟩ (.string ⟨#[47]⟩)).drew)
     have h4:=((H3.out.set_ (i:=0) rfl 4 (.string ⟨#[45]⟩)).set_ (i:=0) rfl 5 (.string ⟨#[47]⟩)).drew
     rw[hw4]at h4⊢
     obtain⟨m4,hm4⟩:∃q:ByteArray,(⟨#[45]⟩:ByteArray)=q:=⟨_,rfl⟩
     obtain⟨p5,hp5⟩:∃q:ByteArray,(⟨#[47]⟩:ByteArray)=q:=⟨_,rfl⟩
     rw[hm4,hp5]at h4
     change Sep w4 (Zaa _ _ #[.int .i64 0,.int .i64 cd,.int .i64 3,.int .i64 0,.string m4,.string p5]::_)at h4)
  clear hw4 kE H3 hm4 hp5 heb
  have kE:=h4.at_ (i:=0) rfl
  have kg:=h4.at_ (i:=1) rfl
  have h5:=(h4.newBlk 233 #[.int .i64 0,.int .i64 cd,.int .i64 3,.int .i64 0,.string m4,.string p5]).drew
  have kg5:=(h4.newBlk 233 #[.int .i64 0,.int .i64 cd,.int .i64 3,.int .i64 0,.string m4,.string p5]).at_ (i:=2) rfl
  have H5:=Hd h5
  unfold Za7 at kg kg5
  clear h4 h5
  go_wp2_with fail
  go_region_law (refine Zgr rfl _ _ 118 233 rfl underlying118 Zu4 rfl (by decide) (by decide) _ nl lx H5.out (i:=13) rfl (by simp[Act.eval,Act.put]) _ _ (j:=0) rfl rfl (by intro u hu;simp at hu;rcases hu with rfl | rfl | rfl | rfl | rfl | rfl <;> rfl) (by simp[Act.eval,Act.put]) (by omega) ?_;intro A5 c5 w5 h6 _;have kg6:=h6.at_ (i:=2) rfl;have H6:=Hd h6;unfold Za7 at kg6;clear h6)
  all_goals
   go_wp2
   refine bodyPost_end (results_none rfl _ _ _) rfl ?_
   have h7:=H6.out.set_ (i:=2) rfl 8 (.slice A5 (nl+1) c5)
   have h8:=Sep.ordN h7 16 [2,3,4,5,6,7,8,9,10,13,14] rfl (by decide)
   simp only[List.set_cons_succ,List.set_cons_zero,Zbo,Zam,Zbd,erS,erZ,List.cons_append,List.nil_append,List.drop_succ_cons,List.drop_zero]at h8
   exact⟨rfl,A2,c2,OA2,oc2,TA2,tc2,A5,c5,_,h8⟩
theorem Zjc.reads {w:World}{g:Nat}(h:Zjc w g):Zab w w.heap.size 3 (some ⟨g,0,none⟩) 2 Zjv:=by
 refine⟨rfl,fun _=>⟨_,rfl,World.block_lt_of_cell? w _ h.1,fun j u hj=> ?_⟩⟩
 match j,hj with
 | 0,hj=>cases hj;exact h.1
 | 1,hj=>cases hj;exact h.2.1
 | 2,hj=>cases hj;exact h.2.2.1
 | 3,hj=>cases hj;exact h.2.2.2.1
 | 4,hj=>cases hj;exact h.2.2.2.2.1
 | 5,hj=>cases hj;exact h.2.2.2.2.2
 | j+6,hj=>simp[Zjv]at hj
theorem Sep.rt2 {w:World}{L:List Zae}{i g:Nat}(h:Sep w L)(hi:L[i]? =some (Zaa g 47 Zjv.toArray)):Zjc w g:=⟨(h.blk hi).cell 0,(h.blk hi).cell 1,(h.blk hi).cell 2,(h.blk hi).cell 3,(h.blk hi).cell 4,(h.blk hi).cell 5⟩
theorem li_new5 {w:World}{F:List Zae}(h:Sep w F):
  CA 50 #[.int .i64 5,.int .i64 5] w fun e w'=>∃S M M',e=.returned (.tuple #[.pointer (some ⟨S,0,none⟩),.nilIface])/\Sep w' (Zaa S 193 #[.int .i64 5,.int .i64 5,.map (some M),.map (some M')]::Zak M' #[] 0::Zak M #[] 0::F):=by
 have h1:=h.newMap.newMap.newBlk 193 #[.int .i64 5,.int .i64 5,.map (some w.heap.size),.map (some (w.heap.size+1))]
 simp only[World.size_alloc]at h1
 have H:=Hd h1
 clear h1
 have q0:=fun w t=>run_makeMap_plain (P:=prog) w t
 go_enter func50,ntmps50
 go_wp2
 go_ret2
 exact⟨_,_,_,rfl,H.out⟩
theorem vt_clone {w:World}{F:List Zae}(h:Sep w F)(g c:Nat)(hr:Zjc w g):
  CA 52 #[.slice (some ⟨g,0,none⟩) 2 c] w fun e w'=>∃A' c',e=.returned (.slice A' 2 c')/\Sep w' (Zad 47 3 (.slice A' 2 c') 2 Zjv::F)/\Below w.heap.size w w':=by
 have ho:=Zig w 47 3
 have hb:=(Below.refl w.heap.size w).alloc (Nat.le_refl _) (.cells #[] 47)
 have HO:=Hd ho
 have HB:=Hd hb
 have HR:=Hd (hr.below hb).reads
 have H:=Hd h
 clear ho hb hr h
 have q:=Lib.run_eql_slice_nil (P:=prog) w 48 47 (some ⟨g,0,none⟩) 2 c 0 0 underlying48
 obtain⟨i0,hi0,hz0,hz1,hz2⟩:=info_parts Zyr
 go_enter func52,ntmps52
 go_wp2_with (at_builtin;refine Zah _ rfl _ _ 48 rfl w.heap.size 47 i0 (.agg #[.string ⟨#[]⟩,.string ⟨#[]⟩,.string ⟨#[]⟩]) 3 48 underlying48 hi0 hz0 hz1 hz2 rfl (by decide) _ 0 [] rfl HO.out _ (some ⟨g,0,none⟩) 2 c Zjv rfl HR.out (by intro u hu;simp[Zjv]at hu;rcases hu with rfl | rfl | rfl | rfl | rfl | rfl <;> rfl) (by unfold maxLen;omega) (by omega) (by simp) ?_;intro v' w' hown' hg _;have hb2:=Zbl HB.out HO.out hg (by simp))
 go_ret
 obtain⟨A',c',rfl⟩:=Zas hown'
 exact⟨A',c',rfl,H.out.newRow hb2 hown',hb2⟩
theorem vt_gnew {w:World}{F:List Zae}(g c:Nat)(hc:2<=c)(h:Sep w (Zaa g 47 Zjv.toArray::F)):
  CA 13 #[.slice (some ⟨g,0,none⟩) 2 c,.int .i64 5,.int .i64 5] w fun e w'=>∃G K RA rc Li LM LM' St CM JM S MS M C gg hh A cc,e=.returned (.tuple #[.pointer (some ⟨G,0,none⟩),.nilIface])/\
   Sep w' (Zaa G 120 (Za7 K (.slice RA 2 rc) Li St CM JM 0 (.slice none 0 0))::Zak JM #[] 0::Zak CM #[] 0::Zaa St 203 #[.slice none 0 0]::Zad 47 3 (.slice RA 2 rc) 2 Zjv::
    Zaa K 200 (Zaf C S M (.slice none 0 0) (.slice none 0 0) (.slice A 9 cc) 2000 2000 0 false (.pointer none) (.slice none 0 0))::Zad 5 1 (.slice A 9 cc) 9 (bs Zf6)::Zak M #[] 0::Zaa S 254 #[.map (some MS),.int .i64 0]::Zak MS #[] 0::Zaa C 93 (Zai gg hh)::Zbw gg none 0 [] 4096::Zbw hh none 0 [] 4096::
    Zaa Li 193 #[.int .i64 5,.int .i64 5,.map (some LM),.map (some LM')]::Zak LM' #[] 0::Zak LM #[] 0::Zaa g 47 Zjv.toArray::F):=by
 have H:=Hd h
 clear h
 have q0:=fun w t=>run_makeMap_plain (P:=prog) w t
 go_enter func13,ntmps13
 go_wp2_with fail
 refine(Ztv g c hc w (H.out.rt2 (i:=0) rfl)).mono ?_
 rintro e w1 ⟨rfl,hb1⟩
 have H1:=Hd (H.out.below hb1)
 clear hb1
 go_wp2_with fail
 refine(li_new5 H1.out).mono ?_
 rintro e w2 ⟨Li,LM,LM',rfl,h2⟩
 have H2:=Hd h2
 clear h2
 go_wp2_with fail
 refine(Z01 H2.out).mono ?_
 rintro e w3 ⟨K,S,MS,M,C,gg,hh,A,cc,rfl,h3⟩
 have H3:=Hd h3
 clear h3
 go_wp2_with fail
 refine(vt_clone H3.out g c (H3.out.rt2 (i:=11) rfl)).mono ?_
 rintro e w4 ⟨RA,rc,rfl,h4,-⟩
 have H4:=Hd h4
 clear h4
 go_wp2_with fail
 refine(Zyf H4.out).mono ?_
 rintro e w5 ⟨St,rfl,h5⟩
 have h6:=h5.newMap.newMap.newBlk 120 (Za7 K (.slice RA 2 rc) Li St w5.heap.size (w5.heap.size+1) 0 (.slice none 0 0))
 simp only[World.size_alloc]at h6
 have H6:=Hd h6
 clear h5 h6
 go_wp2
 go_ret2
 exact⟨_,_,_,_,_,_,_,_,_,_,_,_,_,_,_,_,_,_,rfl,H6.out⟩
structure GF where
 g:Nat
 kb:Nat
 C:Nat
 S:Nat
 M:Nat
 MS:Nat
 Li:Nat
 LM:Nat
 LM':Nat
 St:Nat
 CM:Nat
 JM:Nat
 gg:Nat
 hh:Nat
 rg:Nat
 rc:Nat
structure GC where
 inn:Value
 part:Value
 evs:Value
 iw:Int
 un:Int
 last:Int
 bg:Bool
 cl:List (Int×Value)
structure GV where
 TA:Option Addr
 OA:Option Addr
 A:Option Addr
 LA:Option Addr
 tc:Nat
 oc:Nat
 n:Nat
 c:Nat
 nl:Nat
 lc:Nat
 ow:Nat
 tx:List Fld
 xs:List UInt8
 lx:List Value
 sl:List (Int×Value)
 gl:List (Int×Value)
 jo:List (Int×Value)
 se:List (List UInt8×Value)
 ll:List (List UInt8×Value)
 bl:List (Nat×Nat)
 jl:Int
 Js:List Zae
def gL (a:GF)(c:GC)(v:GV)(F:List Zae):List Zae:=
 Zaa a.g 120 (Za7 a.kb (.slice (some ⟨a.rg,0,none⟩) 2 a.rc) a.Li a.St a.CM a.JM v.jl (.slice v.LA v.nl v.lc))::Zaa a.C 93 (Zai a.gg a.hh)::Zbw a.gg v.TA v.tc v.tx 4096::
 Zaa a.kb 200 (Zaf a.C a.S a.M (.slice v.OA 0 v.oc) c.inn (.slice v.A v.n v.c) c.iw (v.ow:Int) c.un c.bg c.part c.evs)::Zad 5 1 (.slice v.A v.n v.c) v.n (bs v.xs)::Zad 3 1 (.slice v.OA 0 v.oc) 0 []::Zan Zat a.M c.cl::Zaa a.S 254 (Zbf a.MS c.last)::Zan Zat a.MS v.sl::
 Zad 233 6 (.slice v.LA v.nl v.lc) v.nl v.lx::Zan Zat a.CM v.gl::Zaa a.Li 193 #[.int .i64 5,.int .i64 5,.map (some a.LM),.map (some a.LM')]::Zan Zed a.LM' v.se::Zan Zed a.LM v.ll::Zo5 v.bl::Zaa a.St 203 #[.slice none 0 0]::
 Zad 47 3 (.slice (some ⟨a.rg,0,none⟩) 2 a.rc) 2 Zjv::Zan Zat a.JM v.jo::Zff v.Js::F
structure Zfl (jo:List (Int×Value))(Js:List Zae)(jb:List (Nat×List UInt8×List UInt8)):Prop where
 len:jo.length=jb.length
 at_:∀i x,jb[i]? =some x->∃ad c,jo[i]? =some (((i+1:Nat):Int),.agg #[.int .i64 (sid x.1),.string ⟨x.2.1.toArray⟩,.slice (some ad) x.2.2.length c])/\Zir ad x.2.2∈Js
theorem Zfl.nil :Zfl [] [] []:=⟨rfl,fun i x h=>by simp at h⟩
theorem Zfl.key {jo:List (Int×Value)}{Js:List Zae}{jb:List (Nat×List UInt8×List UInt8)}(h:Zfl jo Js jb):jo.map (·.1)=(List.range jb.length).map fun i=>((i+1:Nat):Int):=by
 apply List.ext_getElem?
 intro i
 rw[List.getElem?_map,List.getElem?_map]
 rcases Nat.lt_or_ge i jb.length with h1 | h1
 ·obtain⟨ad,c,h2,-⟩:=h.at_ i jb[i] (List.getElem?_eq_getElem h1)
  rw[h2,List.getElem?_range h1]
  rfl
 ·rw[List.getElem?_eq_none (by rw[h.len];exact h1),List.getElem?_eq_none (by simpa using h1)]
  rfl
theorem Zfl.nodup {jo:List (Int×Value)}{Js:List Zae}{jb:List (Nat×List UInt8×List UInt8)}(h:Zfl jo Js jb):(jo.map (·.1)).Nodup:=by
 rw[h.key]
 exact List.nodup_range.map _ (fun a b hab e=>hab (by omega))
theorem Zfl.none_ {jo:List (Int×Value)}{Js:List Zae}{jb:List (Nat×List UInt8×List UInt8)}(h:Zfl jo Js jb){k:Int}(hk:(jb.length:Int) < k):Za8 jo k=none:=by
 unfold Za8
 rw[List.find?_eq_none.2 fun p hp=> ?_]
 ·rfl
 ·have h1:p.1∈jo.map (·.1):=List.mem_map.2 ⟨p,hp,rfl⟩
  rw[h.key]at h1
  obtain⟨i,hi,e⟩:=List.mem_map.1 h1
  have:=List.mem_range.1 hi
  simp only[decide_eq_true_eq]
  omega
theorem Zfl.snoc {jo:List (Int×Value)}{Js:List Zae}{jb:List (Nat×List UInt8×List UInt8)}(h:Zfl jo Js jb)(k:Nat)(tq b:List UInt8)(ad:Addr)(c:Nat){J1:Int}(hJ:J1=((jb.length+1:Nat):Int)):
  Zfl (jo++[(J1,.agg #[.int .i64 (sid k),.string ⟨tq.toArray⟩,.slice (some ad) b.length c])]) (Zir ad b::Js) (jb++[(k,tq,b)]):=by
 refine⟨by simp[h.len],fun i x hx=> ?_⟩
 rcases Nat.lt_or_ge i jb.length with h1 | h1
 ·rw[List.getElem?_append_left h1]at hx
  obtain⟨ad2,c2,h2,h3⟩:=h.at_ i x hx
  exact⟨ad2,c2,by rw[List.getElem?_append_left (by rw[h.len];exact h1)];exact h2,List.mem_cons_of_mem _ h3⟩
 ·rw[List.getElem?_append_right h1]at hx
  have h2:i=jb.length:=by
   have:=(List.getElem?_eq_some_iff.1 hx).1
   simp at this
   omega
  subst h2
  simp at hx
  subst hx
  refine⟨ad,c,?_,List.mem_cons_self⟩
  rw[List.getElem?_append_right (by rw[h.len];exact Nat.le_refl _),h.len,hJ]
  simp
structure Dm (i:Nat)(v:GV)(d:DS):Prop where
 tx:v.tx=d.tx
 xs:v.xs=d.xs
 n:v.n=d.xs.length
 ow:v.ow=2000-3*d.na
 nl:v.nl=d.na
 lim:Zj0 d.f v.se v.ll v.bl
 ll:v.ll.length<=i
 jl:v.jl=(d.jb.length:Int)
 jo:Zfl v.jo v.Js d.jb
structure Zb7 (l:List (Int×Value))(a:Nat):Prop where
 nd:(l.map (·.1)).Nodup
 lt:∀x∈l.map (·.1),∃j,j < a/\x=sid j
theorem Zht {a b:Nat}(h:sid a=sid b):a=b:=by unfold sid at h;omega
theorem Zb7.nil (a:Nat):Zb7 [] a:=⟨List.nodup_nil,fun x hx=>by cases hx⟩
theorem Zb7.none_ {l:List (Int×Value)}{a k:Nat}(h:Zb7 l a)(hk:a<=k):Za8 l (sid k)=none:=by
 unfold Za8
 rw[List.find?_eq_none.2 fun p hp=> ?_]
 ·rfl
 ·obtain⟨j,hj,e⟩:=h.lt p.1 (List.mem_map.2 ⟨p,hp,rfl⟩)
  simp only[decide_eq_true_eq]
  intro e2
  have:=Zht (e.symm.trans e2)
  omega
theorem Zb7.snoc {l:List (Int×Value)}{a:Nat}(h:Zb7 l a)(v:Value):Zb7 (l++[(sid a,v)]) (a+1):=by
 constructor
 ·rw[List.map_append]
  refine List.nodup_append.2 ⟨h.nd,by simp,fun x hx y hy e=> ?_⟩
  obtain⟨j,hj,e2⟩:=h.lt x hx
  simp at hy
  have:=Zht (e2.symm.trans (e.trans hy))
  omega
 ·intro x hx
  rw[List.map_append,List.mem_append]at hx
  rcases hx with hx | hx
  ·obtain⟨j,hj,e⟩:=h.lt x hx
   exact⟨j,by omega,e⟩
  ·simp at hx
   exact⟨a,by omega,hx⟩
theorem Zb7.set {l:List (Int×Value)}{a:Nat}(h:Zb7 l a)(k:Int)(v:Value):Zb7 (Ze3 l k v) a:=by
 refine⟨by rw[Zgp];exact h.nd,by rw[Zgp];exact h.lt⟩
theorem Zb7.del {l:List (Int×Value)}{a:Nat}(h:Zb7 l a)(k:Int):Zb7 (Z1w l k) a:=by
 have hs:(Z1w l k).Sublist l:=List.filter_sublist
 exact⟨h.nd.sublist (hs.map _),fun x hx=>h.lt x ((hs.map _).subset hx)⟩
theorem Zb7.len {l:List (Int×Value)}{a:Nat}(h:Zb7 l a):l.length<=a:=by
 have h1:l.map (·.1)⊆(List.range a).map sid:=fun x hx=>by
  obtain⟨j,hj,e⟩:=h.lt x hx
  exact List.mem_map.2 ⟨j,List.mem_range.2 hj,e.symm⟩
 have h2:=h.nd.length_le_of_subset h1
 simpa using h2
theorem Zna {l:List (Int×Value)}{k x:Int}(h:x≠k):Za8 (Z1w l k) x=Za8 l x:=by
 unfold Za8 Z1w
 rw[List.find?_filter]
 congr 1
 congr 1
 funext p
 by_cases h1:p.1=x
 ·have h2:p.1≠k:=by rw[h1];exact h
  simp[h1,h2,h]
 ·simp[h1]
theorem rep_ok {dg:List UInt8}(hd:dg.length=3):(∀f∈Zhu dg,fOk f)/\Ze7 (Zhu dg)=0:=by
 constructor
 ·intro f hf
  simp only[Zhu,List.mem_cons,List.not_mem_nil,or_false]at hf
  rcases hf with rfl | rfl
  ·constructor
   ·show(5:Nat)<=_
    decide
   ·show dg.length<=_
    rw[hd]
    decide
  ·constructor <;> decide
 ·simp[Ze7,Za2,Zci,Zhu,wt,fsz,hd]
theorem Zla (k:Nat)(hk:k < 1000)(K F:Int)(hK:0<=K/\K<=255)(hF:0<=F/\F<=255)(b:List UInt8)(hb:b.length<=1024):Zeq ⟨K,F,sid k,b⟩=0:=by
 have h2:Zmd ⟨K,F,sid k,b⟩:=by
  unfold Zmd sid
  refine⟨hK.1,hK.2,hF.1,hF.2,?_,?_⟩
  all_goals simp only
  all_goals omega
 unfold Zeq
 rw[if_pos h2,if_neg (by show¬1024 < b.length;omega)]
theorem Zk8 {cd:Int}{dg:List UInt8}(hC:Zrd cd dg)(hdg:dg.length=3){w w0:World}{F:List Zae}{io i k X Y bc:Nat}{ad:Addr}{a:GF}{c:GC}{v:GV}{d:DS}{fl bd y5 y6 y7:Value}{mm pp:ByteArray}{ci cu:Int}(hP:Pow w0)(hio:F[io]? =some (Zel w0))(hk:k < 1000)(hm:Dm i v d)(hd:wt d.tx<=4096)(hxs:d.xs.length<=10000)(hna:d.na<=100)
  (hl:sid k<=c.last) (hcv:Za8 c.cl (sid k)=some (ptr X)) (hsv:Za8 v.sl (sid k)=some (.int .i64 2)) (hgv:Za8 v.gl (sid k)=some (ptr Y)) (hsd:(v.sl.map (·.1)).Nodup) (hgd:(v.gl.map (·.1)).Nodup)
  (h:Sep w (Zir ad dg::Zaa Y 146 (Zd0 fl bd (.string mm) (.string pp) y5 y6 y7 0)::Zaa X 313 (Zbn ci 2000 cu (.slice none 0 0) false false)::gL a c v F)):
  CA 68 #[.pointer (some ⟨a.g,0,none⟩),.int .i64 (sid k),.agg (Zdx cd (.slice none 0 0) (.slice (some ad) 3 bc))] w fun e w'=>e=.returned (.tuple #[])/\∃v',Dm i v' (d.ans k dg)/\v'.sl=Ze3 v.sl (sid k) (.int .i64 4)/\v'.gl=Z1w v.gl (sid k)/\Sep w' (gL a c v' F):=by
 have h1:=Sep.ordN h 22 [3,4,5,6,7,8,9,2,10,11,0,12,13,1,14,15,16,17,18,19,20,21] rfl (by decide)
 simp only[gL,Zbo,Zam,Zbd,erS,erZ,List.cons_append,List.nil_append,List.drop_succ_cons,List.drop_zero]at h1
 obtain⟨r1,r2⟩:=rep_ok hdg
 have s1:=Zh8 (Zhu dg) v.tx (by rw[hm.tx];exact hd)
 have s2:wt (Zhu dg)<=100:=by simp[Zhu,wt,fsz,hdg]
 have s3:(Zhu dg).length=2:=by simp[Zhu]
 have hn:v.n<=90000:=by have:=hm.n;omega
 have hnl:v.nl<=1000:=by have:=hm.nl;omega
 have how:=hm.ow
 have hfb:Zbh ⟨1,4,sid k,Za0 4096 v.tx (Zhu dg)⟩++Zbh ⟨0,1,sid k,dg⟩=ansL k v.tx dg:=by simp only[ansL]
 obtain⟨blk,hblk⟩:∃q,Za0 4096 v.tx (Zhu dg)=q:=⟨_,rfl⟩
 obtain⟨fb,hfbe⟩:∃q,ansL k v.tx dg=q:=⟨_,rfl⟩
 rw[hblk]at hfb s1
 rw[hfbe]at hfb
 refine(Zxz (blk:=blk) (fb:=fb) hC hP (io:=io+8) hio hk hl hcv hsv hgv hsd hgd hn hnl r1 r2 hblk (by omega) (by omega) (Zla k hk 1 4 (by decide) (by decide) _ (by omega)) hdg (by omega) (by omega) (co:=2000) (by decide) (by decide) (Zla k hk 0 1 (by decide) (by decide) _ (by omega)) hfb h1).mono ?_
 rintro e w' ⟨rfl,A',c',OA',oc',TA',tc',LA',lc',lx',h2⟩
 obtain⟨tx2,ht2⟩:∃q,Zcs 4096 v.tx (Zhu dg)=q:=⟨_,rfl⟩
 obtain⟨xs2,hx2⟩:∃q,v.xs++fb=q:=⟨_,rfl⟩
 obtain⟨n2,hn2⟩:∃q,v.n+fb.length=q:=⟨_,rfl⟩
 obtain⟨ow2,ho2⟩:∃q,v.ow-3=q:=⟨_,rfl⟩
 obtain⟨sl2,hs2⟩:∃q,Ze3 v.sl (sid k) (.int .i64 4)=q:=⟨_,rfl⟩
 obtain⟨gl2,hg2⟩:∃q,Z1w v.gl (sid k)=q:=⟨_,rfl⟩
 rw[ht2,hx2,hn2,ho2,hs2,hg2]at h2
 rw[hs2,hg2]
 refine⟨rfl,⟨TA',OA',A',LA',tc',oc',n2,c',v.nl+1,lc',ow2,tx2,xs2,lx',sl2,gl2,v.jo,v.se,v.ll,v.bl,v.jl,v.Js⟩,?_,rfl,rfl,h2⟩
 rw[<-hfbe]at hx2 hn2
 obtain⟨e1,e2,e3⟩:=Zq9 k dg d
 have e4:=ans_xs k dg d
 have e5:=ans_tx k dg d
 have q1:=hm.tx
 have q2:=hm.xs
 have q3:=hm.n
 have q5:=hm.nl
 rw[q1]at ht2 hx2 hn2
 rw[q2]at hx2
 generalize d.ans k dg=d' at*
 constructor
 ·exact ht2.symm.trans e5.symm
 ·exact hx2.symm.trans e4.symm
 ·show n2=_
  rw[<-hn2,e4,q3,List.length_append]
 ·show ow2=_
  rw[<-ho2,e1,how]
  omega
 ·show v.nl+1=_
  rw[e1,q5]
 ·rw[e2]
  exact hm.lim
 ·exact hm.ll
 ·rw[e3]
  exact hm.jl
 ·rw[e3]
  exact hm.jo
theorem cod_400 :Zrd 400 [52,48,48]:=by
 have h:=Z03 400 (.inl rfl)
 have hd:Lib.decDigits 400=[52,48,48]:=by kernel_rfl
 rw[hd]at h
 exact h
theorem cod_404 :Zrd 404 [52,48,52]:=by
 have h:=Z03 404 (.inr (.inl rfl))
 have hd:Lib.decDigits 404=[52,48,52]:=by kernel_rfl
 rw[hd]at h
 exact h
theorem cod_429 :Zrd 429 [52,50,57]:=by
 have h:=Z03 429 (.inr (.inr rfl))
 have hd:Lib.decDigits 429=[52,50,57]:=by kernel_rfl
 rw[hd]at h
 exact h
theorem Dm.mono {i j:Nat}{v:GV}{d:DS}(h:Dm i v d)(hij:i<=j):Dm j v d:=⟨h.tx,h.xs,h.n,h.ow,h.nl,h.lim,Nat.le_trans h.ll hij,h.jl,h.jo⟩
def GwPost (a:GF)(c:GC)(v:GV)(F:List Zae)(i k:Nat)(d':DS)(w':World):Prop:=
 ∃v',Dm (i+1) v' d'/\(v'.sl=v.sl∨v'.sl=Ze3 v.sl (sid k) (.int .i64 4))/\(v'.gl=v.gl∨v'.gl=Z1w v.gl (sid k))/\Sep w' (gL a c v' F)
theorem Zuw {r:Rq}(hr:RqOk r){w w0:World}{F:List Zae}{io i k X Y fc dc:Nat}{FA D:Option Addr}{a:GF}{c:GC}{v:GV}{d:DS}{ci cu:Int}(hP:Pow w0)(hio:F[io]? =some (Zel w0))(hk:k < 1000)(hi:i<=8)(hm:Dm i v d)(hd:wt d.tx<=4096)(hxs:d.xs.length<=10000)(hna:d.na<=100)(hjb:d.jb.length<=100)(hD:D=none->dc=0)
  (hl:sid k<=c.last) (hcv:Za8 c.cl (sid k)=some (ptr X)) (hsv:Za8 v.sl (sid k)=some (.int .i64 2)) (hgv:Za8 v.gl (sid k)=some (ptr Y)) (hsd:(v.sl.map (·.1)).Nodup) (hgd:(v.gl.map (·.1)).Nodup)
  (h:Sep w (Zaa X 313 (Zbn ci 2000 cu (.slice none 0 0) false false)::Zaa Y 146 (Zdl (.slice FA r.l.length fc) (.slice D r.b.length dc))::Zad 41 2 (.slice FA r.l.length fc) r.l.length (fvs r.l)::Zad 5 1 (.slice D r.b.length dc) r.b.length (bs r.b)::gL a c v F)):
  CA 167 #[.pointer (some ⟨a.g,0,none⟩),.int .i64 (sid k)] w fun e w'=>e=.returned (.tuple #[])/\GwPost a c v F i k (d.whole k r) w':=by
 have hq:=hm.ll
 by_cases hbad:r.bad
 ·have e0:d.whole k r=d.ans k [52,48,48]:=by unfold DS.whole;rw[if_pos hbad]
  rw[e0]
  have h1:=Sep.ordN h 23 [4,14,1,2,3,0,5,6,7,8,9,10,11,12,13,15,16,17,18,19,20,21,22] rfl (by decide)
  simp only[gL,Zbo,Zam,Zbd,erS,erZ,List.cons_append,List.nil_append,List.drop_succ_cons,List.drop_zero]at h1
  refine vw_400 hP (io:=io+18) hio hgv (fun w1 p1 p2=>fa_no hr hbad hD w1 p1 p2) h1 (fun w2 ad cc hcc h2=> ?_)
  have h3:=Sep.ordN h2 22 [0,3,4,1,5,6,7,8,9,10,11,12,13,2,14,15,16,17,18,19,20,21] rfl (by decide)
  simp only[Zbo,Zbd,Zam,erS,erZ]at h3
  refine(Zk8 (a:=a) (c:=c) (v:=v) cod_400 rfl hP hio hk (hm.mono (Nat.le_succ i)) hd hxs hna hl hcv hsv hgv hsd hgd h3).mono ?_
  rintro e w' ⟨rfl,v',h4,h5,h6,h7⟩
  exact⟨rfl,v',h4,.inr h5,.inr h6,h7⟩
 ·have hE:=Rq.good hbad
  have hF:=fun w1 p1 p2=>fa_yes hr hbad (FA:=FA) (D:=D) (fc:=fc) (dc:=dc) hD w1 p1 p2
  by_cases hlim:1<=(d.f r.h).getD 5
  ·cases hv:toV r.p with
   | none=>
    have e0:d.whole k r=(d.ask r).ans k [52,48,52]:=by unfold DS.whole;rw[if_neg hbad,if_pos hlim,hv]
    rw[e0]
    have h1:=Sep.ordN h 23 [4,14,1,2,3,15,16,17,18,0,5,6,7,8,9,10,11,12,13,19,20,21,22] rfl (by decide)
    simp only[gL,Zbo,Zam,Zbd,erS,erZ,List.cons_append,List.nil_append,List.drop_succ_cons,List.drop_zero]at h1
    refine vw_404 hP (io:=io+14) hio hgv hm.lim (by omega) (decide_eq_true hlim) (ir:=11) rfl (by have:=hr.len;omega) (toV_no hv) hF h1 (fun w2 ad cc fa fc2 ba bc2 se ll bl hcc hlo hln h2=> ?_)
    have h3:=Sep.ordN h2 22 [0,3,8,1,9,10,11,12,13,14,15,16,17,2,4,5,6,7,18,19,20,21] rfl (by decide)
    simp only[Zbo,Zbd,Zam,erS,erZ]at h3
    refine(Zk8 (i:=i+1) (a:=a) (c:=c) (v:=⟨v.TA,v.OA,v.A,v.LA,v.tc,v.oc,v.n,v.c,v.nl,v.lc,v.ow,v.tx,v.xs,v.lx,v.sl,v.gl,v.jo,se,ll,bl,v.jl,v.Js⟩) (d:=d.ask r) cod_404 rfl hP hio hk ⟨hm.tx,hm.xs,hm.n,hm.ow,hm.nl,hlo,by show ll.length<=_;omega,hm.jl,hm.jo⟩ hd hxs hna hl hcv hsv hgv hsd hgd h3).mono ?_
    rintro e w' ⟨rfl,v',h4,h5,h6,h7⟩
    exact⟨rfl,v',h4,.inr h5,.inr h6,h7⟩
   | some x=>
    obtain⟨tq,r'⟩:=x
    have e0:d.whole k r=(d.ask r).job k tq (Zjt r.m r' r.h r.q r.b):=by unfold DS.whole;rw[if_neg hbad,if_pos hlim,hv]
    rw[e0]
    have h1:=Sep.ordN h 23 [4,14,1,2,3,15,16,17,18,19,20,21,0,5,6,7,8,9,10,11,12,13,22] rfl (by decide)
    simp only[gL,Zbo,Zam,Zbd,erS,erZ,List.cons_append,List.nil_append,List.drop_succ_cons,List.drop_zero]at h1
    have hJ:v.jl+1=((d.jb.length+1:Nat):Int):=by rw[hm.jl];omega
    refine vw_job hP (io:=io+11) hio hgv hm.lim (by omega) (decide_eq_true hlim) hJ (by unfold wrap64;omega) (hm.jo.none_ (by omega)) rfl rfl (Zx8 hE hv) (by have:=hr.len;omega) (toV_yes hv) hF h1 (fun w2 ad cc fa fc2 ba bc2 se ll bl hcc hlo hln h2=> ?_)
    have h3:=Sep.ordN h2 22 [0,21,1,12,13,14,15,16,17,18,19,20,2,4,5,6,7,8,9,10] rfl (by decide)
    simp only[Zbo,Zbd,Zam,erS,erZ]at h3
    have h4:=Sep.ordN h3.manyAdd 19 [1,2,3,4,5,6,7,8,9,10,11,12,13,14,15,16,17,18,0] rfl (by decide)
    simp only[Zbo,Zbd,Zam,erS,erZ]at h4
    obtain⟨jo2,hj2⟩:∃q,v.jo++[(((d.jb.length+1:Nat):Int),Value.agg #[.int .i64 (sid k),.string ⟨tq.toArray⟩,.slice (some ad) (Zjt r.m r' r.h r.q r.b).length cc])]=q:=⟨_,rfl⟩
    obtain⟨ja,hja⟩:∃q,Zjt r.m r' r.h r.q r.b=q:=⟨_,rfl⟩
    have hjo:=hm.jo.snoc k tq ja ad cc (J1:=((d.jb.length+1:Nat):Int)) rfl
    rw[hja]at hj2 h4⊢
    rw[hj2]at h4 hjo
    refine⟨⟨v.TA,v.OA,v.A,v.LA,v.tc,v.oc,v.n,v.c,v.nl,v.lc,v.ow,v.tx,v.xs,v.lx,v.sl,v.gl,jo2,se,ll,bl,((d.jb.length+1:Nat):Int),Zir ad ja::v.Js⟩,?_,.inl rfl,.inl rfl,h4⟩
    refine⟨hm.tx,hm.xs,hm.n,hm.ow,hm.nl,hlo,by show ll.length<=_;omega,?_,hjo⟩
    show((d.jb.length+1:Nat):Int)=(((d.jb++[(k,tq,ja)]).length:Nat):Int)
    rw[List.length_append,List.length_singleton]
  ·have e0:d.whole k r=(d.ask r).ans k [52,50,57]:=by unfold DS.whole;rw[if_neg hbad,if_neg hlim]
   rw[e0]
   have h1:=Sep.ordN h 23 [4,14,1,2,3,15,16,17,18,0,5,6,7,8,9,10,11,12,13,19,20,21,22] rfl (by decide)
   simp only[gL,Zbo,Zam,Zbd,erS,erZ,List.cons_append,List.nil_append,List.drop_succ_cons,List.drop_zero]at h1
   refine vw_429 hP (io:=io+14) hio hgv hm.lim (by omega) (decide_eq_false hlim) hF h1 (fun w2 ad cc fa fc2 ba bc2 se ll bl hcc hlo hln h2=> ?_)
   have h3:=Sep.ordN h2 22 [0,3,8,1,9,10,11,12,13,14,15,16,17,2,4,5,6,7,18,19,20,21] rfl (by decide)
   simp only[Zbo,Zbd,Zam,erS,erZ]at h3
   refine(Zk8 (i:=i+1) (a:=a) (c:=c) (v:=⟨v.TA,v.OA,v.A,v.LA,v.tc,v.oc,v.n,v.c,v.nl,v.lc,v.ow,v.tx,v.xs,v.lx,v.sl,v.gl,v.jo,se,ll,bl,v.jl,v.Js⟩) (d:=d.ask r) cod_429 rfl hP hio hk ⟨hm.tx,hm.xs,hm.n,hm.ow,hm.nl,hlo,by show ll.length<=_;omega,hm.jl,hm.jo⟩ hd hxs hna hl hcv hsv hgv hsd hgd h3).mono ?_
   rintro e w' ⟨rfl,v',h4,h5,h6,h7⟩
   exact⟨rfl,v',h4,.inr h5,.inr h6,h7⟩
theorem vf_feed {w:World}{F:List Zae}{kb C S M n c k bc:Nat}{A B:Option Addr}{ord out part evs:Value}{xs ys:List UInt8}{iw ow un:Int}{began:Bool}(m:Nat)(fr:Nat->Frm)(rs:Nat->List UInt8)(u:Nat->Nat)
  (hn:n=xs.length) (hk:k=ys.length) (hs:n+k<=60000) (hB:∀w',Sep w' F->Zab w' w'.heap.size 1 B k (bs ys)) (hr0:rs 0=xs++ys)
  (hfr:∀j,j < m->Zdy (rs j)=(fr j,u j,0)/\(rs j).drop (u j)=rs (j+1)/\u j<=(rs j).length/\0 < (rs j).length) (hlen:∀j,j<=m->(rs j).length<=60000) (hend:Zdy (rs m)=(Zhh,0,8))
  (R:Nat->Value->Value->Int->Int->Int->Bool->Value->Value->List Zae->Prop) (hR0:R 0 ord out iw ow un began part (.slice none 0 0) F)
  (hH:∀(j:Nat),j < m->∀(ord out:Value) (iw ow un:Int) (began:Bool) (part evs:Value) (G:List Zae),R j ord out iw ow un began part evs G->∀(w1:World) (A1 BA:Option Addr) (c1 b1:Nat),
   Sep w1 (Zaa kb 200 (Zaf C S M ord (.slice A1 (rs (j+1)).length c1) out iw ow un began part evs)::Zad 5 1 (.slice A1 (rs (j+1)).length c1) (rs (j+1)).length (bs (rs (j+1)))::Zad 5 1 (.slice BA (fr j).body.length b1) (fr j).body.length (bs (fr j).body)::G)->
   CA 162 #[.pointer (some ⟨kb,0,none⟩),frV (fr j) BA b1] w1 fun e w'=>e=.returned (.tuple #[])/\∃ord out iw ow un began part evs G,R (j+1) ord out iw ow un began part evs G/\
    Sep w' (Zaa kb 200 (Zaf C S M ord (.slice A1 (rs (j+1)).length c1) out iw ow un began part evs)::Zad 5 1 (.slice A1 (rs (j+1)).length c1) (rs (j+1)).length (bs (rs (j+1)))::G))
  (h:Sep w (Zaa kb 200 (Zaf C S M ord (.slice A n c) out iw ow un began part evs)::Zad 5 1 (.slice A n c) n (bs xs)::F)):
  CA 111 #[.pointer (some ⟨kb,0,none⟩),.slice B k bc] w fun e w'=>
   ∃ord out iw ow un began part evs G A' c',e=.returned evs/\R m ord out iw ow un began part evs G/\Sep w' (Zaa kb 200 (Zaf C S M ord (.slice A' (rs m).length c') out iw ow un began part evs)::Zad 5 1 (.slice A' (rs m).length c') (rs m).length (bs (rs m))::G):=by
 have kK:=h.at_ (i:=0) rfl
 have HR:=Hd (hB _ h.tail.tail)
 have H:=Hd h
 have HN:=Hd hn
 have HK:=Hd hk
 have HR0:=Hd (And.intro hr0 hR0)
 have HFR:=Hd hfr
 have HLN:=Hd hlen
 have HE:=Hd hend
 have HH:=Hd hH
 unfold Zaf at kK
 clear h hB hn hk hr0 hR0 hfr hlen hend hH
 go_enter func111,ntmps111
 go_wp2_with (at_builtin;refine Zcl (i:=1) rfl _ _ rfl _ n (bs xs) H.out rfl rfl _ _ _ _ HR.out rfl (by omega) ?_;intro A2 c2 w2 h2 _;have hK2:=h2.at_ (i:=0) rfl;have H2:=Hd h2;unfold Zaf at hK2;clear h2 kK)
 obtain⟨w3,hw3⟩:=exl ((w2.setCell ⟨kb,4,none⟩ (.slice A2 (n+k) c2)).setCell ⟨kb,13,none⟩ (.slice none 0 0))
 have h3:=(H2.out.set_ (i:=0) rfl 4 (.slice A2 (n+k) c2)).set_ (i:=0) rfl 13 (.slice none 0 0)
 rw[hw3]at h3⊢
 change Sep w3 (Zaa kb _ (Zaf C S M ord (.slice A2 (n+k) c2) out iw ow un began part (.slice none 0 0))::Zad _ 1 _ (n+k) (bs xs++bs ys)::F)at h3
 rw[<-Za1,<-HR0.out.1]at h3
 have hl:n+k=(rs 0).length:=by rw[HR0.out.1,List.length_append,<-HN.out,<-HK.out]
 rw[hl]at h3
 have H3:=Hd h3
 clear hK2 H2 H HR h3 hw3 hl
 go_loopg [] m (fun mm wr=>∃j:Nat,mm+j=m/\Hid (∃(A1:Option Addr) (c1:Nat) (ord out:Value) (iw ow un:Int) (began:Bool) (part evs:Value) (G:List Zae),R j ord out iw ow un began part evs G/\Sep wr (Zaa kb 200 (Zaf C S M ord (.slice A1 (rs j).length c1) out iw ow un began part evs)::Zad 5 1 (.slice A1 (rs j).length c1) (rs j).length (bs (rs j))::G)))
 case atStart=>exact⟨0,rfl,Hd ⟨A2,c2,ord,out,iw,ow,un,began,part,_,F,HR0.out.2,H3.out⟩⟩
 case round=>
  obtain⟨j,hj,HS⟩:=hrel
  have HJ:=Hd hj
  clear hj
  obtain⟨A1,c1,ord1,out1,iw1,ow1,un1,began1,part1,evs1,G,hR1,hS1⟩:=HS.out
  have kK:=hS1.at_ (i:=0) rfl
  have HR1:=Hd hR1
  have HS1:=Hd hS1
  unfold Zaf at kK
  by_cases hlt:j < m
  ·obtain⟨a1,a2,a3,a4⟩:=HFR.out j hlt
   obtain⟨g1,rfl,-⟩:=hS1.rowAt (i:=1) rfl a4
   have hc1:=hS1.cap (i:=1) rfl
   have HA:=Hd (And.intro a1 (And.intro a2 (And.intro a3 a4)))
   have HRD:=Hd (Zdt (rs j) (some ⟨g1,0,none⟩) _ c1 rfl hc1 (by have:=HLN.out j (by omega);omega) wr (Zag hS1 (i:=1) rfl))
   have hlj:=HLN.out j (by omega)
   obtain⟨LJ,hLJ⟩:=exl ((rs j).length)
   obtain⟨uj,huj⟩:=exl (u j)
   rw[hLJ]at kK HRD hlj hc1 a3
   rw[huj]at a3
   have HLJ:=Hd (And.intro hLJ huj)
   have HLT:=Hd hlt
   clear hS1 hR1 HS a1 a2 a4 hLJ huj hlt
   go_wp2_with fail
   refine Mo HRD ?_
   rintro e w4 ⟨v,rfl,A4,c4,rfl,hown4,hb4⟩
   rw[HA.out.1]at hown4⊢
   rw[Zal,HLJ.out.2]
   have h4:=(HS1.out.newRow hb4 hown4).newBlk 134 #[.int .i64 (fr j).K,.int .i64 (fr j).F,.int .i64 (fr j).S,.slice A4 (fr j).body.length c4]
   have kX:=h4.at_ (i:=0) rfl
   clear kK
   have kK:=h4.at_ (i:=2) rfl
   rw[HLJ.out.1]at kK
   have hr4:=(Zag h4 (i:=3) rfl).cut (k:=uj) (cap:=c1) (by rw[HLJ.out.1];exact a3) (by rw[HLJ.out.1];exact hc1)
   rw[Nat.mul_one,Zfy,<-HLJ.out.2,HA.out.2.1,HLJ.out.2]at hr4
   have hzn:LJ-uj=(rs (j+1)).length:=by rw[<-HA.out.2.1,List.length_drop,HLJ.out.1,HLJ.out.2]
   have HZN:=Hd hzn
   rw[HLJ.out.1,hzn]at hr4
   have H4:=Hd h4
   unfold Zaf at kK
   clear hb4 hown4 h4 hzn HRD HS1
   unfold frV
   have qe:=Zsw
   obtain⟨f,hf⟩:=exl (fr j)
   obtain⟨zs,hzs⟩:=exl (rs (j+1))
   have HF:=Hd (And.intro hf hzs)
   rw[hf]at H4 kX kK⊢
   rw[hf,hzs]at hr4
   rw[hzs]at HZN
   simp only at H4 kX kK⊢
   have HHJ:=Hd (HH.out j HLT.out)
   rw[hf,hzs]at HHJ
   have hzl:zs.length<=60000:=by rw[<-hzs];exact HLN.out (j+1) (by have:=HLT.out;omega)
   clear hf hzs
   by_cases hcu:c1=uj
   all_goals
    first
     | (rw[if_pos hcu]at hr4;have hr6:=hr4)
     | (rw[if_neg hcu]at hr4;have hr6:Zab (w4.alloc (.cells #[.int .i64 f.K,.int .i64 f.F,.int .i64 f.S,.slice A4 f.body.length c4] 134)) (w4.alloc (.cells #[.int .i64 f.K,.int .i64 f.F,.int .i64 f.S,.slice A4 f.body.length c4] 134)).heap.size 1 (some ⟨g1,uj,none⟩) zs.length (bs zs):=by simpa [Addr.add_lit]using hr4)
    have HC:=Hd hr6
    clear hr4 hr6
    go_wp2_with fail
    refine(Zcd _ zs _ _ HZN.out (fun e=>by cases e) (by omega) _ HC.out).mono ?_
    rintro e w6 ⟨A6,c6,rfl,hown6,hb6⟩
    have h6:=H4.out.newRow hb6 hown6
    clear kK kX HC H4
    have kX:=h6.at_ (i:=1) rfl
    have kK:=h6.at_ (i:=3) rfl
    have H6:=Hd h6
    unfold Zaf at kK
    clear h6 hown6 hb6
    go_wp2_with fail
    obtain⟨w7,hw7⟩:=exl (w6.setCell ⟨kb,4,none⟩ (.slice A6 zs.length c6))
    have h7:=H6.out.set_ (i:=3) rfl 4 (.slice A6 zs.length c6)
    rw[hw7]at h7⊢
    change Sep w7 (_::_::_::Zaa kb _ (Zaf C S M ord1 (.slice A6 zs.length c6) out1 iw1 ow1 un1 began1 part1 evs1)::_)at h7
    clear kK kX H6 hw7
    have h8:=Sep.ordN h7 5 [3,0,2] rfl (by decide)
    simp only[Zbo,Zbd,Zam,erS,erZ]at h8
    have HC:=Hd (HHJ.out ord1 out1 iw1 ow1 un1 began1 part1 evs1 G HR1.out w7 A6 A4 c6 c4 h8)
    clear h7 h8
    unfold frV at HC
    refine Mo HC ?_
    rintro e w9 ⟨rfl,ord',out',iw',ow',un',began',part',evs',G',hR,h9⟩
    have HN9:=Hd (show∃(A1:Option Addr) (c1:Nat) (ord out:Value) (iw ow un:Int) (began:Bool) (part evs:Value) (G:List Zae),R (j+1) ord out iw ow un began part evs G/\Sep w9 (Zaa kb 200 (Zaf C S M ord (.slice A1 (rs (j+1)).length c1) out iw ow un began part evs)::Zad 5 1 (.slice A1 (rs (j+1)).length c1) (rs (j+1)).length (bs (rs (j+1)))::G)from⟨A6,c6,ord',out',iw',ow',un',began',part',evs',G',hR,by rw[HF.out.2];exact h9⟩)
    clear h9 hR HC HHJ
    go_wp2
    go_roundg (gk-1)
    case measure=>have:=HJ.out;have:=HLT.out;omega
    case rel=>exact⟨j+1,by have:=HJ.out;have:=HLT.out;omega,HN9⟩
  ·have hjm:j=m:=by have:=HJ.out;omega
   subst hjm
   have hlj:=HLN.out j (Nat.le_refl _)
   have HRD:=Hd (Zdt (rs j) A1 _ c1 rfl (hS1.cap (i:=1) rfl) (by omega) wr (Zag hS1 (i:=1) rfl))
   obtain⟨LJ,hLJ⟩:=exl ((rs j).length)
   have HLJ:=Hd hLJ
   rw[hLJ]at kK HRD hlj
   clear hS1 hR1 HS hLJ hlt
   go_wp2_with fail
   refine Mo HRD ?_
   rintro e w10 ⟨v,rfl,A8,c8,rfl,-,hb8⟩
   rw[HE.out,Zbe (by decide)]
   have h10:=(HS1.out.below hb8).newBlk 134 #[.int .i64 0,.int .i64 0,.int .i64 0,.slice A8 0 c8]
   clear kK hb8
   have kK:=h10.at_ (i:=1) rfl
   have H10:=Hd h10.tail
   have qe1:=Zil
   have qe2:=Zsx
   have qe3:=Z0m
   unfold Zaf at kK
   clear h10 HRD HS1
   unfold frV Zhh
   go_wp2
   go_ret
   exact⟨_,_,_,_,_,_,_,_,_,_,_,rfl,HR1.out,H10.out⟩
theorem cn_grant {w:World}{L:List Zae}{i kb C S M:Nat}{ord inn out part evs:Value}{ow un:Int}{began:Bool}(id:Int)(h:Sep w L)(hi:L[i]? =some (Zaa kb 200 (Zaf C S M ord inn out 1999 ow un began part evs))):
  CA 229 #[.pointer (some ⟨kb,0,none⟩),.int .i64 id,.pointer (some ⟨kb,6,none⟩),.int .i64 0] w fun e w'=>e=.returned (.tuple #[])/\w=w':=by
 have kK:=h.at_ hi
 unfold Zaf at kK
 clear h hi
 go_enter func229,ntmps229
 go_wp2_with fail
 refine(Ze0 ⟨kb,6,none⟩ 1999 w (kK.1 6)).mono ?_
 rintro e w' ⟨rfl,rfl⟩
 go_wp2_with fail
 refine(fl_due 1999 (by decide) (by decide) _).mono ?_
 rintro e w' ⟨rfl,rfl⟩
 go_wp2
 refine bodyPost_end (results_none rfl _ _ _) rfl ?_
 exact⟨rfl,rfl⟩
theorem cn_used1 {w:World}{F:List Zae}{kb C S M MS X mc sc:Nat}{ord inn out part evs q:Value}{ow co:Int}{began wt en:Bool}
  (h:Sep w (Zaa kb 200 (Zaf C S M ord inn out 1999 ow 1 began part evs)::Zak M (Zaw (.pointer (some ⟨X,0,none⟩))) mc::Zaa X 313 (Zbn 1999 co 1 q wt en)::Zaa S 254 (Zbf MS 1)::Zak MS (Zaw (.int .i64 2)) sc::F)):
  CA 166 #[.pointer (some ⟨kb,0,none⟩),.int .i64 1,.int .i64 1] w fun e w'=>e=.returned .nilIface/\Sep w' (Zaa kb 200 (Zaf C S M ord inn out 1999 ow 0 began part evs)::Zak M (Zaw (.pointer (some ⟨X,0,none⟩))) mc::Zaa X 313 (Zbn 1999 co 0 q wt en)::Zaa S 254 (Zbf MS 1)::Zak MS (Zaw (.int .i64 2)) sc::F):=by
 have kK:=h.at_ (i:=0) rfl
 have kC:=h.at_ (i:=2) rfl
 have ql:=Zcr (P:=prog) (t:=196) (k:=.int .i64 1) underlying196 underlying3 rfl (h.map_ (i:=1) rfl) (i:=0) (by rfl) false
 have H:=Hd h
 unfold Zaf at kK
 unfold Zbn at kC
 clear h
 go_enter func166,ntmps166
 go_wp2_with fail
 obtain⟨w1,hw1⟩:=exl (w.setCell ⟨kb,9,none⟩ (.int .i64 0))
 have h1:=H.out.set_ (i:=0) rfl 9 (.int .i64 0)
 rw[hw1]at h1⊢
 change Sep w1 (Zaa kb _ (Zaf C S M ord inn out 1999 ow 0 began part evs)::_)at h1
 clear kK kC ql H hw1
 have kK:=h1.at_ (i:=0) rfl
 have kC:=h1.at_ (i:=2) rfl
 have H1:=Hd h1
 unfold Zaf at kK
 unfold Zbn at kC
 clear h1
 go_quiet (first | (go_at_call 229;refine Calls.quiet_of_same ((cn_grant 0 (H1.out.drewN _) (i:=0) rfl).mono fun e w' h=>⟨h.1,h.2.symm⟩)))
 obtain⟨w2,hw2⟩:=exl (w1.drewN nq)
 have h2:=H1.out.drewN nq
 rw[hw2]at h2⊢
 clear kK kC H1 hw2
 have kK:=h2.at_ (i:=0) rfl
 have kC:=h2.at_ (i:=2) rfl
 have H2:=Hd h2
 unfold Zaf at kK
 unfold Zbn at kC
 clear h2
 have n1:=H2.out.ne_ (i:=0) (i':=2) rfl rfl (by decide)
 have n2:=Ne.symm n1
 go_wp2_with fail
 obtain⟨w3,hw3⟩:=exl (w2.setCell ⟨X,2,none⟩ (.int .i64 0))
 have h3:=H2.out.set_ (i:=2) rfl 2 (.int .i64 0)
 rw[hw3]at h3⊢
 change Sep w3 (_::_::Zaa X _ (Zbn 1999 co 0 q wt en)::_)at h3
 have H3:=Hd h3
 clear kK kC n1 n2 H2 hw3 h3
 refine(Zef H3.out (i:=3) (j:=4) rfl rfl).mono ?_
 rintro e w' ⟨rfl,rfl⟩
 go_wp2
 go_ret
 exact⟨rfl,H3.out⟩
end
end Go.Proofs.YtbgnggkgmeagkaaGreatDoor
