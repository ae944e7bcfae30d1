/-
  A part of the proof of TopAlike: each theorem states its own conditions.
-/
import Derived.Test.YtbgnggkgmeagkaaGreatDoorMTopAlike25
set_option linter.unusedSimpArgs false
set_option linter.unusedVariables false
set_option maxRecDepth 100000
set_option maxHeartbeats 16000000
namespace Go.Proofs.YtbgnggkgmeagkaaGreatDoor
open Go.Proofs.Tryz
section
open Go.RowKit Go.Shelf
theorem ixf_none (f:Value)(w:World):
  CA 175 #[.slice none 0 0,f] w fun e w'=>e=.returned (.int .i64 (-1))/\w=w':=by
 go_enter func175,ntmps175
 go_wp2
 refine wp_loop_rounds 1 ?_
 rw[rounds_succ]
 go_wp2
 go_ret
 exact⟨rfl,rfl⟩
theorem Z0s (f:Value)(w:World):
  CA 132 #[.slice none 0 0,f] w fun e w'=>e=.returned (.slice none 0 0)/\w=w':=by
 go_enter func132,ntmps132
 go_wp2_with (go_at_call 175;refine(ixf_none _ _).mono ?_;rintro e w' ⟨rfl,rfl⟩)
 go_ret
 exact⟨rfl,rfl⟩
theorem Zw5 (w:World):
  CA 123 #[.slice none 0 0] w fun e w'=>e=.returned (.slice none 0 0)/\w=w':=by
 have q:=Lib.run_eql_slice_nil (P:=prog) w 22 41 none 0 0 0 0 underlying22
 go_enter func123,ntmps123
 go_wp2
 go_ret
 exact⟨rfl,rfl⟩
theorem Zqy (w:World):
  CA 252 #[.slice none 0 0] w fun e w'=>e=.returned (.slice none 0 0)/\Below w.heap.size w w':=by
 have hb:=Hd ((Below.refl w.heap.size w).alloc (Nat.le_refl _) (.cells #[.slice none 0 0] 87))
 go_enter func252,ntmps252
 go_wp2
 refine wp_loop_rounds 1 ?_
 rw[rounds_succ]
 go_wp2_with (first
  | (go_at_call 123;refine(Zw5 _).mono ?_;rintro e w' ⟨rfl,rfl⟩)
  | (go_at_call 132;refine(Z0s _ _).mono ?_;rintro e w' ⟨rfl,rfl⟩))
 go_ret
 exact⟨rfl,hb.out⟩
theorem itoa_4 (w:World)(hP:Pow w):CA 28 #[.int .i64 4] w fun e w'=>e=.returned (.string ⟨#[52]⟩)/\Below w.heap.size w w':=by
 have h:=Zgz 4 (by decide) w hP
 have e:Lib.decDigits 4=[52]:=by kernel_rfl
 rw[e]at h
 exact h
def codF :Array Value:= #[.string ⟨#[58,99,111,100,101]⟩,.string ⟨#[50,48,48]⟩]
theorem Zve (g:Nat)(w:World):(Builtin.append_ #[22,22] 22 #[.slice (some ⟨g,0,none⟩) 1 1,.slice none 0 0]).run prog w=.ok (.slice (some ⟨g,0,none⟩) 1 1) w:=by kernel_rfl
structure FtSt (W:World)(G:Nat)(w':World)(b0 b1 b2 b3 b4 b5 b6 b7 b8 b9:Bool)(x11 x12 x13 x14 x15 x16 x17 x18 x19 x5:Value):Prop where
 bw:Below W.heap.size W w'
 f0:b0=true->x11=.pointer (some ⟨G,0,none⟩)
 f1:b1=true->x12=.int .i64 200
 f2:b2=true->x13=.string ⟨#[50,48,48]⟩
 f3:b3=true->x14=.agg codF
 f4:b4=true->∃g,x15=.slice (some ⟨g,0,none⟩) 1 1/\W.heap.size<=g/\Blk w' g 41 codF
 f5:b5=true->x16=.pointer (some ⟨G,1,none⟩)
 f6:b6=true->x17=.slice none 0 0
 f7:b7=true->x18=.slice none 0 0
 f8:b8=true->∃g,x19=.slice (some ⟨g,0,none⟩) 1 1/\W.heap.size<=g/\Blk w' g 41 codF
 f9:b9=true->∃g,x5=.slice (some ⟨g,0,none⟩) 1 1/\W.heap.size<=g/\Blk w' g 41 codF
theorem FtSt.next {W:World}{G:Nat}{w' w'':World}{b0 b1 b2 b3 b4 b5 b6 b7 b8 b9:Bool}{x11 x12 x13 x14 x15 x16 x17 x18 x19 x5:Value}(h:FtSt W G w' b0 b1 b2 b3 b4 b5 b6 b7 b8 b9 x11 x12 x13 x14 x15 x16 x17 x18 x19 x5)(hb:Below W.heap.size W w'')(hk:Below w'.heap.size w' w''):FtSt W G w'' b0 b1 b2 b3 b4 b5 b6 b7 b8 b9 x11 x12 x13 x14 x15 x16 x17 x18 x19 x5:=
 ⟨hb,
  h.f0,
  h.f1,
  h.f2,
  h.f3,
  fun hh=>by obtain⟨g,e,hg,h2⟩:=h.f4 hh;exact⟨g,e,hg,h2.below hk h2.lt⟩,
  h.f5,
  h.f6,
  h.f7,
  fun hh=>by obtain⟨g,e,hg,h2⟩:=h.f8 hh;exact⟨g,e,hg,h2.below hk h2.lt⟩,
  fun hh=>by obtain⟨g,e,hg,h2⟩:=h.f9 hh;exact⟨g,e,hg,h2.below hk h2.lt⟩⟩
theorem ft_tell {w w0:World}{F:List Zae}{io bc:Nat}{BA:Option Addr}(hP:Pow w0)(hio:F[io]? =some (Zel w0))(h:Sep w F):
  CA 182 #[.agg (Zdx 200 (.slice none 0 0) (.slice BA 4 bc))] w fun e w'=>∃LA lc,e=.returned (.tuple #[.slice LA 2 lc,.nilIface])/\Sep w' (Zad 41 2 (.slice LA 2 lc) 2 (fvs Zn2)::F):=by
 have h0:=h.newBlk 69 (Zdx 200 (.slice none 0 0) (.slice BA 4 bc))
 obtain⟨W,hW⟩:=exl (w.alloc (.cells (Zdx 200 (.slice none 0 0) (.slice BA 4 bc)) 69))
 rw[hW]at h0
 have kG:=h0.at_ (i:=0) rfl
 unfold Zdx at kG hW
 have H0:=Hd h0
 have HC:=Hd (show CA 117 #[.agg #[.int .i64 200,.slice none 0 0,.slice BA 4 bc],.int .i64 0] W fun e w'=>e=.returned .nilIface/\Below W.heap.size W w' from ct_ok 0 none 0 BA bc W)
 clear h h0
 go_enter func182,ntmps182
 unfold Zdx
 go_wp2_with fail
 refine Mo HC ?_
 rintro e w1 ⟨rfl,hb1⟩
 have h1:=H0.out.below hb1
 have H1:=Hd h1
 clear kG hb1 hW HC H0 h1
 have HZ:=Hd (show∀w',Below w1.heap.size w1 w'->w'.cell? ⟨w.heap.size,0,none⟩=some (.int .i64 200)/\w'.cell? ⟨w.heap.size,1,none⟩=some (.slice none 0 0)/\Pow w'/\w.heap.size < w'.heap.size from fun w' hb=>by
  have h2:=H1.out.below hb
  have k:=h2.at_ (i:=0) rfl
  exact⟨k.1 0,k.1 1,hP.next (h2.old (i:=io+1) hio),k.2.2⟩)
 go_wp2_with fail
 refine Zkw (by kernel_rfl) (fun a w'=>∃x11 x12 x13 x14 x15 x16 x17 x18 x19 x5,a={tmps:= #[.agg (Zdx 200 (.slice none 0 0) (.slice BA 4 bc)),.pointer (some ⟨w.heap.size,0,none⟩),.slice none 0 0,.nilIface,.nilIface,x5,.agg #[.int .i64 200,.slice none 0 0,.slice BA 4 bc],.nilIface,.nilIface,.bool false,undef,x11,x12,x13,x14,x15,x16,x17,x18,x19,undef,undef,undef,undef,undef,undef,undef,undef,undef,undef,undef,undef,undef],defers:=[]}/\FtSt w1 w.heap.size w' true true true true true true true true true true x11 x12 x13 x14 x15 x16 x17 x18 x19 x5) (fun listed a w'=>∃b0 b1 b2 b3 b4 b5 b6 b7 b8 b9 x11 x12 x13 x14 x15 x16 x17 x18 x19 x5,listed= #[b0,b1,b2,b3,b4,b5,b6,b7,b8,b9]/\a={tmps:= #[.agg (Zdx 200 (.slice none 0 0) (.slice BA 4 bc)),.pointer (some ⟨w.heap.size,0,none⟩),.slice none 0 0,.nilIface,.nilIface,x5,.agg #[.int .i64 200,.slice none 0 0,.slice BA 4 bc],.nilIface,.nilIface,.bool false,undef,x11,x12,x13,x14,x15,x16,x17,x18,x19,undef,undef,undef,undef,undef,undef,undef,undef,undef,undef,undef,undef,undef],defers:=[]}/\FtSt w1 w.heap.size w' b0 b1 b2 b3 b4 b5 b6 b7 b8 b9 x11 x12 x13 x14 x15 x16 x17 x18 x19 x5) ?fin ?init ?hend ?hstep
 case init=>
  exact⟨false,false,false,false,false,false,false,false,false,false,undef,undef,undef,undef,undef,undef,undef,undef,undef,undef,rfl,rfl,⟨(Below.refl _ _).drew,(by intro h;cases h),(by intro h;cases h),(by intro h;cases h),(by intro h;cases h),(by intro h;cases h),(by intro h;cases h),(by intro h;cases h),(by intro h;cases h),(by intro h;cases h),(by intro h;cases h)⟩⟩
 case hend=>
  intro listed a w' hI hr
  have hno:∀i,i∈Region.ready .any _ listed->False:=fun i hi=>by rw[hr]at hi;cases hi
  clear hr
  obtain⟨b0,b1,b2,b3,b4,b5,b6,b7,b8,b9,x11,x12,x13,x14,x15,x16,x17,x18,x19,x5,rfl,rfl,hs⟩:=hI
  cases b0
  ·exact(hno 0 (mem_ready.2 ⟨rfl,_,rfl,by simp[Region.binds]⟩)).elim
  cases b1
  ·exact(hno 1 (mem_ready.2 ⟨rfl,_,rfl,by simp[Region.binds]⟩)).elim
  cases b2
  ·exact(hno 2 (mem_ready.2 ⟨rfl,_,rfl,by simp[Region.binds]⟩)).elim
  cases b3
  ·exact(hno 3 (mem_ready.2 ⟨rfl,_,rfl,by simp[Region.binds]⟩)).elim
  cases b4
  ·exact(hno 4 (mem_ready.2 ⟨rfl,_,rfl,by simp[Region.binds]⟩)).elim
  cases b5
  ·exact(hno 5 (mem_ready.2 ⟨rfl,_,rfl,by simp[Region.binds]⟩)).elim
  cases b6
  ·exact(hno 6 (mem_ready.2 ⟨rfl,_,rfl,by simp[Region.binds]⟩)).elim
  cases b7
  ·exact(hno 7 (mem_ready.2 ⟨rfl,_,rfl,by simp[Region.binds]⟩)).elim
  cases b8
  ·exact(hno 8 (mem_ready.2 ⟨rfl,_,rfl,by simp[Region.binds]⟩)).elim
  cases b9
  ·exact(hno 9 (mem_ready.2 ⟨rfl,_,rfl,by simp[Region.binds]⟩)).elim
  exact⟨_,_,_,_,_,_,_,_,_,_,rfl,hs⟩
 case hstep=>
  intro listed a w' i hI hi
  obtain⟨hl,o,ho,hd⟩:=mem_ready.1 hi
  have hlt:i < 10:=(Array.getElem?_eq_some_iff.1 ho).1
  clear hi
  obtain⟨b0,b1,b2,b3,b4,b5,b6,b7,b8,b9,x11,x12,x13,x14,x15,x16,x17,x18,x19,x5,rfl,rfl,hs⟩:=hI
  obtain rfl | rfl | rfl | rfl | rfl | rfl | rfl | rfl | rfl | rfl:i=0∨i=1∨i=2∨i=3∨i=4∨i=5∨i=6∨i=7∨i=8∨i=9:=by omega
  ·obtain rfl:=Option.some.inj ho
   have HS:=Hd hs
   clear hs hd hl
   refine Zav rfl (by rfl) ?_
   intro K' hK
   go_simp
   exact hK _ _ ⟨true,b1,b2,b3,b4,b5,b6,b7,b8,b9,_,_,_,_,_,_,_,_,_,_,rfl,rfl,{HS.out with f0:=fun _=>rfl}⟩
  ·obtain rfl:=Option.some.inj ho
   have e0:b0=true:=hd ⟨0,.data⟩ (by simp) rfl
   obtain rfl:=hs.f0 e0
   have z:=(HZ.out _ hs.bw).1
   have zl:=(HZ.out _ hs.bw).2.2.2
   have HS:=Hd hs
   clear hs hd hl
   refine Zav rfl (by rfl) ?_
   intro K' hK
   go_simp
   exact hK _ _ ⟨b0,true,b2,b3,b4,b5,b6,b7,b8,b9,_,_,_,_,_,_,_,_,_,_,rfl,rfl,{HS.out with f1:=fun _=>rfl}⟩
  ·obtain rfl:=Option.some.inj ho
   have e1:b1=true:=hd ⟨1,.data⟩ (by simp) rfl
   obtain rfl:=hs.f1 e1
   have HPw:=Hd (HZ.out _ hs.bw).2.2.1
   have HS:=Hd hs
   clear hs hd hl
   refine Zav rfl (by rfl) ?_
   intro K' hK
   go_simp
   go_at_call 28
   refine(Zod _ HPw.out).mono ?_
   rintro e wi ⟨rfl,hk'⟩
   have hb':=HS.out.bw.trans (hk'.mono HS.out.bw.size)
   exact hK _ _ ⟨b0,b1,true,b3,b4,b5,b6,b7,b8,b9,_,_,_,_,_,_,_,_,_,_,rfl,rfl,{HS.out.next hb' hk' with f2:=fun _=>rfl}⟩
  ·obtain rfl:=Option.some.inj ho
   have e2:b2=true:=hd ⟨2,.data⟩ (by simp) rfl
   obtain rfl:=hs.f2 e2
   have HS:=Hd hs
   clear hs hd hl
   refine Zav rfl (by rfl) ?_
   intro K' hK
   go_simp
   exact hK _ _ ⟨b0,b1,b2,true,b4,b5,b6,b7,b8,b9,_,_,_,_,_,_,_,_,_,_,rfl,rfl,{HS.out with f3:=fun _=>rfl}⟩
  ·obtain rfl:=Option.some.inj ho
   have e3:b3=true:=hd ⟨3,.data⟩ (by simp) rfl
   obtain rfl:=hs.f3 e3
   have hb':=hs.bw.alloc hs.bw.size (.cells codF 41)
   have hk':=(Below.refl _ w').alloc (Nat.le_refl _) (.cells codF 41)
   have HB:=Hd (Blk.new w' 41 codF)
   unfold codF at hb' hk'⊢
   have HS:=Hd hs
   clear hs hd hl
   refine Zav rfl (by rfl) ?_
   intro K' hK
   go_simp
   exact hK _ _ ⟨b0,b1,b2,b3,true,b5,b6,b7,b8,b9,_,_,_,_,_,_,_,_,_,_,rfl,rfl,{HS.out.next hb' hk' with f4:=fun _=>⟨_,rfl,HS.out.bw.size,HB.out⟩}⟩
  ·obtain rfl:=Option.some.inj ho
   have HS:=Hd hs
   clear hs hd hl
   refine Zav rfl (by rfl) ?_
   intro K' hK
   go_simp
   exact hK _ _ ⟨b0,b1,b2,b3,b4,true,b6,b7,b8,b9,_,_,_,_,_,_,_,_,_,_,rfl,rfl,{HS.out with f5:=fun _=>rfl}⟩
  ·obtain rfl:=Option.some.inj ho
   have e5:b5=true:=hd ⟨5,.data⟩ (by simp) rfl
   obtain rfl:=hs.f5 e5
   have z:=(HZ.out _ hs.bw).2.1
   have zl:=(HZ.out _ hs.bw).2.2.2
   have HS:=Hd hs
   clear hs hd hl
   refine Zav rfl (by rfl) ?_
   intro K' hK
   go_simp
   exact hK _ _ ⟨b0,b1,b2,b3,b4,b5,true,b7,b8,b9,_,_,_,_,_,_,_,_,_,_,rfl,rfl,{HS.out with f6:=fun _=>rfl}⟩
  ·obtain rfl:=Option.some.inj ho
   have e6:b6=true:=hd ⟨6,.data⟩ (by simp) rfl
   obtain rfl:=hs.f6 e6
   have HS:=Hd hs
   clear hs hd hl
   refine Zav rfl (by rfl) ?_
   intro K' hK
   go_simp
   go_at_call 252
   refine(Zqy _).mono ?_
   rintro e wi ⟨rfl,hk'⟩
   have hb':=HS.out.bw.trans (hk'.mono HS.out.bw.size)
   exact hK _ _ ⟨b0,b1,b2,b3,b4,b5,b6,true,b8,b9,_,_,_,_,_,_,_,_,_,_,rfl,rfl,{HS.out.next hb' hk' with f7:=fun _=>rfl}⟩
  ·obtain rfl:=Option.some.inj ho
   have e7:b7=true:=hd ⟨7,.data⟩ (by simp) rfl
   obtain rfl:=hs.f7 e7
   have e4:b4=true:=hd ⟨4,.data⟩ (by simp) rfl
   obtain⟨g,rfl,hg,hB⟩:=hs.f4 e4
   have HG:=Hd hg
   have HB:=Hd hB
   clear hg hB
   have HS:=Hd hs
   clear hs hd hl
   refine Zav rfl (by rfl) ?_
   intro K' hK
   refine Zh3 _ _ _ _ rfl _ _ rfl rfl _ _ (Zve g _) ?_
   exact hK _ _ ⟨b0,b1,b2,b3,b4,b5,b6,b7,true,b9,_,_,_,_,_,_,_,_,_,_,rfl,rfl,{HS.out with f8:=fun _=>⟨g,rfl,HG.out,HB.out⟩}⟩
  ·obtain rfl:=Option.some.inj ho
   have e8:b8=true:=hd ⟨8,.data⟩ (by simp) rfl
   obtain⟨g,rfl,hg,hB⟩:=hs.f8 e8
   have HG:=Hd hg
   have HB:=Hd hB
   clear hg hB
   have HS:=Hd hs
   clear hs hd hl
   refine Zav rfl (by rfl) ?_
   intro K' hK
   go_simp
   exact hK _ _ ⟨b0,b1,b2,b3,b4,b5,b6,b7,b8,true,_,_,_,_,_,_,_,_,_,_,rfl,rfl,{HS.out with f9:=fun _=>⟨g,rfl,HG.out,HB.out⟩}⟩
 case fin=>
  rintro a w' ⟨x11,x12,x13,x14,x15,x16,x17,x18,x19,x5,rfl,hs⟩
  obtain⟨g,rfl,hg,hB⟩:=hs.f9 rfl
  have h2:=H1.out.below hs.bw
  have hrow:w'.ownsRow w1.heap.size 41 2 (.slice (some ⟨g,0,none⟩) 1 1) 1 (fvs [([58,99,111,100,101],[50,48,48])]):=
   ⟨rfl,.inr ⟨g,1,codF,rfl,hg,hB,Nat.le_refl _,by decide,rfl,rfl⟩⟩
  have h3:=H1.out.newRow hs.bw hrow
  have kG:=h3.at_ (i:=1) rfl
  have hP3:=hP.next (h3.old (i:=io+2) hio)
  have H3:=Hd h3
  have HP3:=Hd hP3
  unfold Zdx at kG
  clear hs hg hB h2 hrow h3 hP3 HZ H1
  simp only
  go_wp2_with fail
  refine(Z1n _).mono ?_
  rintro e w4 ⟨rfl,rfl⟩
  go_wp2_with fail
  refine(itoa_4 _ HP3.out).mono ?_
  rintro e w5 ⟨rfl,hb5⟩
  have h5:=(H3.out.below hb5).newBlk 41 #[.string ⟨#[108,101,110,103,116,104]⟩,.string ⟨#[52]⟩]
  have H5:=Hd h5
  clear h5 hb5 H3 kG HP3
  go_wp2_with (at_builtin;refine Zck rfl _ _ 22 41 rfl underlying22 Zdm rfl (by decide) (by decide) _ 1 _ H5.out (i:=1) rfl rfl _ _ (j:=0) rfl rfl (by intro u hu;simp at hu;rcases hu with rfl | rfl <;> rfl) rfl (by decide) ?_;intro A6 c6 w6 h6 _;have H6:=Hd h6;clear h6)
  go_ret2
  exact⟨A6,c6,rfl,(H6.out.tail).drop_ 1⟩
structure Zrd (cd:Int)(dg:List UInt8):Prop where
 ct:∀BA bc W,CA 117 #[.agg #[.int .i64 cd,.slice none 0 0,.slice BA 3 bc],.int .i64 0] W fun e w'=>e=.returned .nilIface/\Below W.heap.size W w'
 it:∀w,Pow w->CA 28 #[.int .i64 cd] w fun e w'=>e=.returned (.string ⟨dg.toArray⟩)/\Below w.heap.size w w'
 ba:∀w,CA 183 #[.int .i64 cd] w fun e w'=>e=.returned (.bool false)/\w=w'
def Zhu (dg:List UInt8):List Fld:=[([58,99,111,100,101],dg),([108,101,110,103,116,104],[51])]
theorem itoa_3 (w:World)(hP:Pow w):CA 28 #[.int .i64 3] w fun e w'=>e=.returned (.string ⟨#[51]⟩)/\Below w.heap.size w w':=by
 have h:=Zgz 3 (by decide) w hP
 have e:Lib.decDigits 3=[51]:=by kernel_rfl
 rw[e]at h
 exact h
def codG (dg:List UInt8):Array Value:= #[.string ⟨#[58,99,111,100,101]⟩,.string ⟨dg.toArray⟩]
structure FtG (cd:Int)(dg:List UInt8)(W:World)(G:Nat)(w':World)(b0 b1 b2 b3 b4 b5 b6 b7 b8 b9:Bool)(x11 x12 x13 x14 x15 x16 x17 x18 x19 x5:Value):Prop where
 bw:Below W.heap.size W w'
 f0:b0=true->x11=.pointer (some ⟨G,0,none⟩)
 f1:b1=true->x12=.int .i64 cd
 f2:b2=true->x13=.string ⟨dg.toArray⟩
 f3:b3=true->x14=.agg (codG dg)
 f4:b4=true->∃g,x15=.slice (some ⟨g,0,none⟩) 1 1/\W.heap.size<=g/\Blk w' g 41 (codG dg)
 f5:b5=true->x16=.pointer (some ⟨G,1,none⟩)
 f6:b6=true->x17=.slice none 0 0
 f7:b7=true->x18=.slice none 0 0
 f8:b8=true->∃g,x19=.slice (some ⟨g,0,none⟩) 1 1/\W.heap.size<=g/\Blk w' g 41 (codG dg)
 f9:b9=true->∃g,x5=.slice (some ⟨g,0,none⟩) 1 1/\W.heap.size<=g/\Blk w' g 41 (codG dg)
theorem FtG.next {cd:Int}{dg:List UInt8}{W:World}{G:Nat}{w' w'':World}{b0 b1 b2 b3 b4 b5 b6 b7 b8 b9:Bool}{x11 x12 x13 x14 x15 x16 x17 x18 x19 x5:Value}(h:FtG cd dg W G w' b0 b1 b2 b3 b4 b5 b6 b7 b8 b9 x11 x12 x13 x14 x15 x16 x17 x18 x19 x5)(hb:Below W.heap.size W w'')(hk:Below w'.heap.size w' w''):FtG cd dg W G w'' b0 b1 b2 b3 b4 b5 b6 b7 b8 b9 x11 x12 x13 x14 x15 x16 x17 x18 x19 x5:=
 ⟨hb,
  h.f0,
  h.f1,
  h.f2,
  h.f3,
  fun hh=>by obtain⟨g,e,hg,h2⟩:=h.f4 hh;exact⟨g,e,hg,h2.below hk h2.lt⟩,
  h.f5,
  h.f6,
  h.f7,
  fun hh=>by obtain⟨g,e,hg,h2⟩:=h.f8 hh;exact⟨g,e,hg,h2.below hk h2.lt⟩,
  fun hh=>by obtain⟨g,e,hg,h2⟩:=h.f9 hh;exact⟨g,e,hg,h2.below hk h2.lt⟩⟩
theorem vf_tell {cd:Int}{dg:List UInt8}(hC:Zrd cd dg){w w0:World}{F:List Zae}{io bc:Nat}{BA:Option Addr}(hP:Pow w0)(hio:F[io]? =some (Zel w0))(h:Sep w F):
  CA 182 #[.agg (Zdx cd (.slice none 0 0) (.slice BA 3 bc))] w fun e w'=>∃LA lc,e=.returned (.tuple #[.slice LA 2 lc,.nilIface])/\Sep w' (Zad 41 2 (.slice LA 2 lc) 2 (fvs (Zhu dg))::F):=by
 have HCO:=Hd hC
 clear hC
 have h0:=h.newBlk 69 (Zdx cd (.slice none 0 0) (.slice BA 3 bc))
 obtain⟨W,hW⟩:=exl (w.alloc (.cells (Zdx cd (.slice none 0 0) (.slice BA 3 bc)) 69))
 rw[hW]at h0
 have kG:=h0.at_ (i:=0) rfl
 unfold Zdx at kG hW
 have H0:=Hd h0
 have HC:=Hd (show CA 117 #[.agg #[.int .i64 cd,.slice none 0 0,.slice BA 3 bc],.int .i64 0] W fun e w'=>e=.returned .nilIface/\Below W.heap.size W w' from HCO.out.ct BA bc W)
 clear h h0
 go_enter func182,ntmps182
 unfold Zdx
 go_wp2_with fail
 refine Mo HC ?_
 rintro e w1 ⟨rfl,hb1⟩
 have h1:=H0.out.below hb1
 have H1:=Hd h1
 clear kG hb1 hW HC H0 h1
 have HZ:=Hd (show∀w',Below w1.heap.size w1 w'->w'.cell? ⟨w.heap.size,0,none⟩=some (.int .i64 cd)/\w'.cell? ⟨w.heap.size,1,none⟩=some (.slice none 0 0)/\Pow w'/\w.heap.size < w'.heap.size from fun w' hb=>by
  have h2:=H1.out.below hb
  have k:=h2.at_ (i:=0) rfl
  exact⟨k.1 0,k.1 1,hP.next (h2.old (i:=io+1) hio),k.2.2⟩)
 go_wp2_with fail
 refine Zkw (by kernel_rfl) (fun a w'=>∃x11 x12 x13 x14 x15 x16 x17 x18 x19 x5,a={tmps:= #[.agg (Zdx cd (.slice none 0 0) (.slice BA 3 bc)),.pointer (some ⟨w.heap.size,0,none⟩),.slice none 0 0,.nilIface,.nilIface,x5,.agg #[.int .i64 cd,.slice none 0 0,.slice BA 3 bc],.nilIface,.nilIface,.bool false,undef,x11,x12,x13,x14,x15,x16,x17,x18,x19,undef,undef,undef,undef,undef,undef,undef,undef,undef,undef,undef,undef,undef],defers:=[]}/\FtG cd dg w1 w.heap.size w' true true true true true true true true true true x11 x12 x13 x14 x15 x16 x17 x18 x19 x5) (fun listed a w'=>∃b0 b1 b2 b3 b4 b5 b6 b7 b8 b9 x11 x12 x13 x14 x15 x16 x17 x18 x19 x5,listed= #[b0,b1,b2,b3,b4,b5,b6,b7,b8,b9]/\a={tmps:= #[.agg (Zdx cd (.slice none 0 0) (.slice BA 3 bc)),.pointer (some ⟨w.heap.size,0,none⟩),.slice none 0 0,.nilIface,.nilIface,x5,.agg #[.int .i64 cd,.slice none 0 0,.slice BA 3 bc],.nilIface,.nilIface,.bool false,undef,x11,x12,x13,x14,x15,x16,x17,x18,x19,undef,undef,undef,undef,undef,undef,undef,undef,undef,undef,undef,undef,undef],defers:=[]}/\FtG cd dg w1 w.heap.size w' b0 b1 b2 b3 b4 b5 b6 b7 b8 b9 x11 x12 x13 x14 x15 x16 x17 x18 x19 x5) ?fin ?init ?hend ?hstep
 case init=>
  exact⟨false,false,false,false,false,false,false,false,false,false,undef,undef,undef,undef,undef,undef,undef,undef,undef,undef,rfl,rfl,⟨(Below.refl _ _).drew,(by intro h;cases h),(by intro h;cases h),(by intro h;cases h),(by intro h;cases h),(by intro h;cases h),(by intro h;cases h),(by intro h;cases h),(by intro h;cases h),(by intro h;cases h),(by intro h;cases h)⟩⟩
 case hend=>
  intro listed a w' hI hr
  have hno:∀i,i∈Region.ready .any _ listed->False:=fun i hi=>by rw[hr]at hi;cases hi
  clear hr
  obtain⟨b0,b1,b2,b3,b4,b5,b6,b7,b8,b9,x11,x12,x13,x14,x15,x16,x17,x18,x19,x5,rfl,rfl,hs⟩:=hI
  cases b0
  ·exact(hno 0 (mem_ready.2 ⟨rfl,_,rfl,by simp[Region.binds]⟩)).elim
  cases b1
  ·exact(hno 1 (mem_ready.2 ⟨rfl,_,rfl,by simp[Region.binds]⟩)).elim
  cases b2
  ·exact(hno 2 (mem_ready.2 ⟨rfl,_,rfl,by simp[Region.binds]⟩)).elim
  cases b3
  ·exact(hno 3 (mem_ready.2 ⟨rfl,_,rfl,by simp[Region.binds]⟩)).elim
  cases b4
  ·exact(hno 4 (mem_ready.2 ⟨rfl,_,rfl,by simp[Region.binds]⟩)).elim
  cases b5
  ·exact(hno 5 (mem_ready.2 ⟨rfl,_,rfl,by simp[Region.binds]⟩)).elim
  cases b6
  ·exact(hno 6 (mem_ready.2 ⟨rfl,_,rfl,by simp[Region.binds]⟩)).elim
  cases b7
  ·exact(hno 7 (mem_ready.2 ⟨rfl,_,rfl,by simp[Region.binds]⟩)).elim
  cases b8
  ·exact(hno 8 (mem_ready.2 ⟨rfl,_,rfl,by simp[Region.binds]⟩)).elim
  cases b9
  ·exact(hno 9 (mem_ready.2 ⟨rfl,_,rfl,by simp[Region.binds]⟩)).elim
  exact⟨_,_,_,_,_,_,_,_,_,_,rfl,hs⟩
 case hstep=>
  intro listed a w' i hI hi
  obtain⟨hl,o,ho,hd⟩:=mem_ready.1 hi
  have hlt:i < 10:=(Array.getElem?_eq_some_iff.1 ho).1
  clear hi
  obtain⟨b0,b1,b2,b3,b4,b5,b6,b7,b8,b9,x11,x12,x13,x14,x15,x16,x17,x18,x19,x5,rfl,rfl,hs⟩:=hI
  obtain rfl | rfl | rfl | rfl | rfl | rfl | rfl | rfl | rfl | rfl:i=0∨i=1∨i=2∨i=3∨i=4∨i=5∨i=6∨i=7∨i=8∨i=9:=by omega
  ·obtain rfl:=Option.some.inj ho
   have HS:=Hd hs
   clear hs hd hl
   refine Zav rfl (by rfl) ?_
   intro K' hK
   go_simp
   exact hK _ _ ⟨true,b1,b2,b3,b4,b5,b6,b7,b8,b9,_,_,_,_,_,_,_,_,_,_,rfl,rfl,{HS.out with f0:=fun _=>rfl}⟩
  ·obtain rfl:=Option.some.inj ho
   have e0:b0=true:=hd ⟨0,.data⟩ (by simp) rfl
   obtain rfl:=hs.f0 e0
   have z:=(HZ.out _ hs.bw).1
   have zl:=(HZ.out _ hs.bw).2.2.2
   have HS:=Hd hs
   clear hs hd hl
   refine Zav rfl (by rfl) ?_
   intro K' hK
   go_simp
   exact hK _ _ ⟨b0,true,b2,b3,b4,b5,b6,b7,b8,b9,_,_,_,_,_,_,_,_,_,_,rfl,rfl,{HS.out with f1:=fun _=>rfl}⟩
  ·obtain rfl:=Option.some.inj ho
   have e1:b1=true:=hd ⟨1,.data⟩ (by simp) rfl
   obtain rfl:=hs.f1 e1
   have HPw:=Hd (HZ.out _ hs.bw).2.2.1
   have HS:=Hd hs
   clear hs hd hl
   refine Zav rfl (by rfl) ?_
   intro K' hK
   go_simp
   go_at_call 28
   refine(HCO.out.it _ HPw.out).mono ?_
   rintro e wi ⟨rfl,hk'⟩
   have hb':=HS.out.bw.trans (hk'.mono HS.out.bw.size)
   exact hK _ _ ⟨b0,b1,true,b3,b4,b5,b6,b7,b8,b9,_,_,_,_,_,_,_,_,_,_,rfl,rfl,{HS.out.next hb' hk' with f2:=fun _=>rfl}⟩
  ·obtain rfl:=Option.some.inj ho
   have e2:b2=true:=hd ⟨2,.data⟩ (by simp) rfl
   obtain rfl:=hs.f2 e2
   have HS:=Hd hs
   clear hs hd hl
   refine Zav rfl (by rfl) ?_
   intro K' hK
   go_simp
   exact hK _ _ ⟨b0,b1,b2,true,b4,b5,b6,b7,b8,b9,_,_,_,_,_,_,_,_,_,_,rfl,rfl,{HS.out with f3:=fun _=>rfl}⟩
  ·obtain rfl:=Option.some.inj ho
   have e3:b3=true:=hd ⟨3,.data⟩ (by simp) rfl
   obtain rfl:=hs.f3 e3
   have hb':=hs.bw.alloc hs.bw.size (.cells (codG dg) 41)
   have hk':=(Below.refl _ w').alloc (Nat.le_refl _) (.cells (codG dg) 41)
   have HB:=Hd (Blk.new w' 41 (codG dg))
   unfold codG at hb' hk'⊢
   have HS:=Hd hs
   clear hs hd hl
   refine Zav rfl (by rfl) ?_
   intro K' hK
   go_simp
   exact hK _ _ ⟨b0,b1,b2,b3,true,b5,b6,b7,b8,b9,_,_,_,_,_,_,_,_,_,_,rfl,rfl,{HS.out.next hb' hk' with f4:=fun _=>⟨_,rfl,HS.out.bw.size,HB.out⟩}⟩
  ·obtain rfl:=Option.some.inj ho
   have HS:=Hd hs
   clear hs hd hl
   refine Zav rfl (by rfl) ?_
   intro K' hK
   go_simp
   exact hK _ _ ⟨b0,b1,b2,b3,b4,true,b6,b7,b8,b9,_,_,_,_,_,_,_,_,_,_,rfl,rfl,{HS.out with f5:=fun _=>rfl}⟩
  ·obtain rfl:=Option.some.inj ho
   have e5:b5=true:=hd ⟨5,.data⟩ (by simp) rfl
   obtain rfl:=hs.f5 e5
   have z:=(HZ.out _ hs.bw).2.1
   have zl:=(HZ.out _ hs.bw).2.2.2
   have HS:=Hd hs
   clear hs hd hl
   refine Zav rfl (by rfl) ?_
   intro K' hK
   go_simp
   exact hK _ _ ⟨b0,b1,b2,b3,b4,b5,true,b7,b8,b9,_,_,_,_,_,_,_,_,_,_,rfl,rfl,{HS.out with f6:=fun _=>rfl}⟩
  ·obtain rfl:=Option.some.inj ho
   have e6:b6=true:=hd ⟨6,.data⟩ (by simp) rfl
   obtain rfl:=hs.f6 e6
   have HS:=Hd hs
   clear hs hd hl
   refine Zav rfl (by rfl) ?_
   intro K' hK
   go_simp
   go_at_call 252
   refine(Zqy _).mono ?_
   rintro e wi ⟨rfl,hk'⟩
   have hb':=HS.out.bw.trans (hk'.mono HS.out.bw.size)
   exact hK _ _ ⟨b0,b1,b2,b3,b4,b5,b6,true,b8,b9,_,_,_,_,_,_,_,_,_,_,rfl,rfl,{HS.out.next hb' hk' with f7:=fun _=>rfl}⟩
  ·obtain rfl:=Option.some.inj ho
   have e7:b7=true:=hd ⟨7,.data⟩ (by simp) rfl
   obtain rfl:=hs.f7 e7
   have e4:b4=true:=hd ⟨4,.data⟩ (by simp) rfl
   obtain⟨g,rfl,hg,hB⟩:=hs.f4 e4
   have HG:=Hd hg
   have HB:=Hd hB
   clear hg hB
   have HS:=Hd hs
   clear hs hd hl
   refine Zav rfl (by rfl) ?_
   intro K' hK
   refine Zh3 _ _ _ _ rfl _ _ rfl rfl _ _ (Zve g _) ?_
   exact hK _ _ ⟨b0,b1,b2,b3,b4,b5,b6,b7,true,b9,_,_,_,_,_,_,_,_,_,_,rfl,rfl,{HS.out with f8:=fun _=>⟨g,rfl,HG.out,HB.out⟩}⟩
  ·obtain rfl:=Option.some.inj ho
   have e8:b8=true:=hd ⟨8,.data⟩ (by simp) rfl
   obtain⟨g,rfl,hg,hB⟩:=hs.f8 e8
   have HG:=Hd hg
   have HB:=Hd hB
   clear hg hB
   have HS:=Hd hs
   clear hs hd hl
   refine Zav rfl (by rfl) ?_
   intro K' hK
   go_simp
   exact hK _ _ ⟨b0,b1,b2,b3,b4,b5,b6,b7,b8,true,_,_,_,_,_,_,_,_,_,_,rfl,rfl,{HS.out with f9:=fun _=>⟨g,rfl,HG.out,HB.out⟩}⟩
 case fin=>
  rintro a w' ⟨x11,x12,x13,x14,x15,x16,x17,x18,x19,x5,rfl,hs⟩
  obtain⟨g,rfl,hg,hB⟩:=hs.f9 rfl
  have h2:=H1.out.below hs.bw
  have hrow:w'.ownsRow w1.heap.size 41 2 (.slice (some ⟨g,0,none⟩) 1 1) 1 (fvs [([58,99,111,100,101],dg)]):=
   ⟨rfl,.inr ⟨g,1,(codG dg),rfl,hg,hB,Nat.le_refl _,by decide,rfl,rfl⟩⟩
  have h3:=H1.out.newRow hs.bw hrow
  have kG:=h3.at_ (i:=1) rfl
  have hP3:=hP.next (h3.old (i:=io+2) hio)
  have H3:=Hd h3
  have HP3:=Hd hP3
  unfold Zdx at kG
  clear hs hg hB h2 hrow h3 hP3 HZ H1
  simp only
  go_wp2_with fail
  refine(HCO.out.ba _).mono ?_
  rintro e w4 ⟨rfl,rfl⟩
  go_wp2_with fail
  refine(itoa_3 _ HP3.out).mono ?_
  rintro e w5 ⟨rfl,hb5⟩
  have h5:=(H3.out.below hb5).newBlk 41 #[.string ⟨#[108,101,110,103,116,104]⟩,.string ⟨#[51]⟩]
  have H5:=Hd h5
  clear h5 hb5 H3 kG HP3
  go_wp2_with (at_builtin;refine Zck rfl _ _ 22 41 rfl underlying22 Zdm rfl (by decide) (by decide) _ 1 _ H5.out (i:=1) rfl rfl _ _ (j:=0) rfl rfl (by intro u hu;simp at hu;rcases hu with rfl | rfl <;> rfl) rfl (by decide) ?_;intro A6 c6 w6 h6 _;have H6:=Hd h6;clear h6)
  go_ret2
  exact⟨A6,c6,rfl,(H6.out.tail).drop_ 1⟩
theorem Z03 (n:Nat)(hn:n=400∨n=404∨n=429):Zrd ((n:Nat):Int) (Lib.decDigits n) where
 ct BA bc W:=by
  have HQ:=Hd (fun W1=>Zij none 0 0 BA 3 bc W1)
  have HQ2:=Hd (fun W1=>Zhz [] (fun f hf=>by cases hf) (by decide) none 0 0 rfl W1 ⟨rfl,fun h=>by cases h⟩)
  obtain⟨N,hN⟩:∃N:Int,((n:Nat):Int)=N:=⟨_,rfl⟩
  have h1:¬N < 100:=by omega
  have h2:¬(599:Int) < N:=by omega
  rw[hN]
  have HB:=Hd ((Below.refl W.heap.size W).alloc (Nat.le_refl _) (.cells #[.int .i64 N,.slice none 0 0,.slice BA 3 bc] 69))
  clear hn hN
  go_enter func117,ntmps117
  go_wp2_with (first
   | (go_at_call 70;refine(HQ.out _).mono ?_;rintro e w' ⟨rfl,rfl⟩)
   | (go_at_call 74;refine(HQ2.out _).mono ?_;rintro e w1 ⟨rfl,hb1⟩;have HB2:=Hd (HB.out.trans (hb1.mono HB.out.size));clear hb1))
  go_ret
  exact⟨rfl,HB2.out⟩
 it w hP:=Zgz n (by omega) w hP
 ba w:=by
  obtain⟨N,hN⟩:∃N:Int,((n:Nat):Int)=N:=⟨_,rfl⟩
  have hN2:N=400∨N=404∨N=429:=by omega
  rw[hN]
  clear hN hn
  rcases hN2 with rfl | rfl | rfl
  all_goals
   go_enter func183,ntmps183
   go_wp2
   go_ret
   exact⟨rfl,rfl⟩
def Zff (l:List Zae):Zae:=⟨fun k=>∃a∈l,a.own k,fun w=>∀a∈l,a.holds w/\∀k,a.own k->k < w.heap.size,fun S w w' hk hS _ h a ha=>⟨a.loc S w w' hk (fun k h2=>hS k ⟨a,ha,h2⟩) (h a ha).2 (h a ha).1,fun k h2=>Nat.lt_of_lt_of_le ((h a ha).2 k h2) hk.size⟩⟩
section
variable {w:World} {F l:List Zae} {a b:Zae} {i:Nat}
theorem Sep.weak (h:Sep w (a::F))(h1:a.holds w->b.holds w)(h2:∀k,b.own k->a.own k):Sep w (b::F):=by
 obtain⟨hA,hP⟩:=h
 refine⟨fun c hc=> ?_,?_⟩
 ·rcases List.mem_cons.1 hc with rfl | hc
  ·exact⟨h1 (hA a List.mem_cons_self).1,fun k hk=>(hA a List.mem_cons_self).2 k (h2 k hk)⟩
  ·exact hA c (List.mem_cons_of_mem _ hc)
 ·rw[List.pairwise_cons]at hP⊢
  exact⟨fun c hc k hk=>hP.1 c hc k (h2 k hk),hP.2⟩
theorem Sep.manyNil (h:Sep w F):Sep w (Zff []::F):=
 ⟨fun c hc=>by
  rcases List.mem_cons.1 hc with rfl | hc
  ·exact⟨(by intro a ha;cases ha),(by rintro k ⟨a,ha,-⟩;cases ha)⟩
  ·exact h.all c hc,List.pairwise_cons.2 ⟨(by rintro b _ k ⟨a,ha,-⟩;cases ha),h.apart⟩⟩
theorem Sep.manyAdd (h:Sep w (a::Zff l::F)):Sep w (Zff (a::l)::F):=by
 obtain⟨hA,hP⟩:=h
 simp only[List.pairwise_cons]at hP
 obtain⟨p1,p2,p3⟩:=hP
 refine⟨fun c hc=> ?_,List.pairwise_cons.2 ⟨fun b hb k hk hk2=> ?_,p3⟩⟩
 ·rcases List.mem_cons.1 hc with rfl | hc
  ·refine⟨fun p hp=> ?_,?_⟩
   ·rcases List.mem_cons.1 hp with rfl | hp
    ·exact hA _ (List.mem_cons_self)
    ·exact(hA _ (List.mem_cons_of_mem _ List.mem_cons_self)).1 p hp
   ·rintro k ⟨p,hp,h2⟩
    rcases List.mem_cons.1 hp with rfl | hp
    ·exact(hA _ (List.mem_cons_self)).2 _ h2
    ·exact(hA _ (List.mem_cons_of_mem _ List.mem_cons_self)).2 _ ⟨p,hp,h2⟩
  ·exact hA c (List.mem_cons_of_mem _ (List.mem_cons_of_mem _ hc))
 ·obtain⟨p,hp,h2⟩:=hk
  rcases List.mem_cons.1 hp with rfl | hp
  ·exact p1 b (List.mem_cons_of_mem _ hb) _ h2 hk2
  ·exact p2 b hb _ ⟨p,hp,h2⟩ hk2
theorem Sep.many (h:Sep w F)(hi:F[i]? =some (Zff l))(ha:a∈l):a.holds w:=(h.get hi a ha).1
end
def calX (X:Nat):Zae:=⟨fun k=>k=X,fun w=>∃o q rep got bod,Blk w X 130 (Zay o q false rep got bod false),fun _ _ _ hk hS _ ⟨o,q,rep,got,bod,h⟩=>⟨o,q,rep,got,bod,h.keep hk (hS X rfl)⟩⟩
theorem sid_next (j:Nat):sid j+2=sid (j+1):=by unfold sid;omega
theorem Zxv {w:World}{L Xs:List Zae}{i im ia kb C M k:Nat}{la:Int}{ord inn out part:Value}{win on:Int}{ends:Bool}{cl:List (Int×Value)}(h:Sep w L)(hi:L[i]? =some (Zaa kb 126 (Zau C M ord inn out win la part on ends)))(hm:L[im]? =some (Zan Zat M cl))(ha:L[ia]? =some (Zff Xs))
  (hc:∀j,j < k->∃X,Za8 cl (sid j)=some (ptr X)/\calX X∈Xs) (hk:k<=8) (hla:la=sid k-2):
  CA 56 #[.pointer (some ⟨kb,0,none⟩)] w fun e w'=>∃A n c,e=.returned (.slice A n c)/\n<=k/\Sep w' L:=by
 have HS0:=Hd (h.nilRow 3 1)
 have HI:=Hd hi
 have HM:=Hd hm
 have HA:=Hd ha
 have HC:=Hd hc
 have HLA:=Hd hla
 have h1:sid 0=1:=rfl
 have HK:=Hd hk
 clear h hi hm ha hc hla hk
 go_enter func56,ntmps56
 go_wp2
 go_loopg [2,3] k (fun mm l id wr=>∃j:Nat,mm+j=k/\id=.int .i64 (sid j)/\∃(A:Option Addr) (n c:Nat) (xs:List Value),n<=j/\l=.slice A n c/\Hid (Sep wr (Zad 3 1 (.slice A n c) n xs::L)))
 case atStart=>exact⟨0,rfl,rfl,none,0,0,[],Nat.le_refl _,rfl,HS0⟩
 case round=>
  obtain⟨j,hj,rfl,A,n,c,xs,hn,rfl,HS⟩:=hrel
  have kK:=HS.out.at_ (i:=i+1) HI.out
  unfold Zau at kK
  by_cases hlt:j < k
  ·obtain⟨X,hX1,hX2⟩:=HC.out j hlt
   obtain⟨o,q,rep,got,bod,hB⟩:=HS.out.many (i:=ia+1) HA.out hX2
   have kX:=hB.cell
   have hXl:=hB.lt
   have ql:(Instr.lookup 121 (.map (some M)) (.int .i64 (sid j)) false).run prog wr=.ok (.pointer (some ⟨X,0,none⟩)) wr:=HS.out.lookV (P:=prog) Zja (i:=im+1) HM.out underlying121 underlying3 hX1 false
   have e1:sid j<=la:=by rw[HLA.out];unfold sid;omega
   have e2:=sid_next j
   have e3:wrap64 (sid (j+1))=sid (j+1):=by unfold wrap64 sid;have:=HK.out;omega
   have HE:=Hd hX1
   have HN:=Hd (show n<=100 by have:=HK.out;omega)
   have HJ:=Hd (And.intro hj (And.intro hn hlt))
   obtain⟨id2,hid2⟩:∃q,sid (j+1)=q:=⟨_,rfl⟩
   obtain⟨id,hid⟩:∃q,sid j=q:=⟨_,rfl⟩
   rw[hid2,hid]at e2
   rw[hid2]at e3
   rw[hid]at e1 ql⊢
   have HID:=Hd hid2
   unfold Zay at kX
   clear hX1 hid hid2 hB hlt hj hn
   have H6:=Hd (HS.out.newBlk 3 #[.int .i64 id])
   clear HS
   go_wp2_with (at_builtin;refine Zck rfl _ _ 58 3 rfl underlying58 Zg0 rfl (by decide) (by decide) _ n xs H6.out (i:=1) rfl rfl _ _ (j:=0) rfl rfl (by intro u hu;simp at hu;subst hu;rfl) rfl (by have:=HN.out;omega) ?_;intro A7 c7 w7 h7 _;have H7:=Hd h7;clear h7 H6)
   go_roundg (gk-1)
   case measure=>have:=HJ.out;have:=HK.out;omega
   case rel=>exact⟨j+1,by have:=HJ.out;omega,by rw[HID.out],A7,n+1,c7,_,by have:=HJ.out;omega,rfl,Hd (H7.out.drop_ 0)⟩
  ·have e1:¬sid j<=la:=by rw[HLA.out];unfold sid;omega
   obtain⟨id,hid⟩:∃q,sid j=q:=⟨_,rfl⟩
   rw[hid]at e1⊢
   have HN:=Hd (show n<=k by omega)
   clear hid hlt hj hn
   go_wp2
   go_ret
   exact⟨A,n,⟨c,rfl⟩,HN.out,HS.out.tail⟩
theorem Zs9 {w:World}{L:List Zae}{i i1 j kb C S M MS sc:Nat}{ord inn out part evs:Value}{iw ow un:Int}{began:Bool}(h:Sep w L)(hi:L[i]? =some (Zaa kb 200 (Zaf C S M ord inn out iw ow un began part evs)))
  (hi1:L[i1]? =some (Zaa S 254 (Zbf MS 1))) (hj:L[j]? =some (Zak MS (Zaw (.int .i64 2)) sc)):
  CA 223 #[.pointer (some ⟨kb,0,none⟩),.int .i64 1,.int .i64 1,.bool false] w fun e w'=>e=.returned (.tuple #[.int .i64 2,.nilIface])/\w=w':=by
 have kK:=h.at_ hi
 have HS:=Hd (Zef h hi1 hj)
 unfold Zaf at kK
 clear h hi hi1 hj
 go_enter func223,ntmps223
 go_wp2_with fail
 refine Mo HS ?_
 rintro e w' ⟨rfl,rfl⟩
 go_wp2_with fail
 refine(Zkn w).mono ?_
 rintro e w' ⟨rfl,rfl⟩
 go_wp2
 go_ret2
 exact⟨rfl,rfl⟩
theorem Zta {w:World}{L:List Zae}{i i1 j kb C S M MS sc:Nat}{ord inn out part evs:Value}{iw ow un:Int}{began:Bool}(h:Sep w L)(hi:L[i]? =some (Zaa kb 200 (Zaf C S M ord inn out iw ow un began part evs)))
  (hi1:L[i1]? =some (Zaa S 254 (Zbf MS 1))) (hj:L[j]? =some (Zak MS (Zaw (.int .i64 2)) sc)):
  CA 223 #[.pointer (some ⟨kb,0,none⟩),.int .i64 1,.int .i64 0,.bool true] w fun e w'=>e=.returned (.tuple #[.int .i64 4,.nilIface])/\w=w':=by
 have kK:=h.at_ hi
 have HS:=Hd (Zef h hi1 hj)
 unfold Zaf at kK
 clear h hi hi1 hj
 go_enter func223,ntmps223
 go_wp2_with fail
 refine Mo HS ?_
 rintro e w' ⟨rfl,rfl⟩
 go_wp2_with fail
 refine(Zee w).mono ?_
 rintro e w' ⟨rfl,rfl⟩
 go_wp2
 go_ret2
 exact⟨rfl,rfl⟩
def rhdF :Frm:=⟨1,4,1,Zic⟩
def rhdB :List UInt8:=[0,0,4,1,4,0,0,0,1,133,71,1,52]
theorem Zyu :Zeq rhdF=0/\Zbh rhdF=rhdB:=by decide
theorem Zud :Za0 4096 [] Zn2=Zic/\Ze7 Zn2=0:=⟨by kernel_rfl,by kernel_rfl⟩
theorem rep_fok :∀f∈Zn2,fOk f:=by
 intro f hf
 simp only[Zn2,List.mem_cons,List.not_mem_nil,or_false]at hf
 rcases hf with rfl | rfl <;>(constructor <;> decide)
theorem Z06 {w:World}{F:List Zae}{kb C S M MS X n c mc sc gg hh lc:Nat}{A LA:Option Addr}{ord inn part evs q:Value}{xs:List UInt8}{iw ow un ci co cu:Int}{began en:Bool}(hn:n<=1000)
  (h:Sep w (Zaa C 93 (Zai gg hh)::Zbw gg none 0 [] 4096::Zaa kb 200 (Zaf C S M ord inn (.slice A n c) iw ow un began part evs)::Zad 5 1 (.slice A n c) n (bs xs)::Zak M (Zaw (.pointer (some ⟨X,0,none⟩))) mc::
   Zaa X 313 (Zbn ci co cu q false en)::Zaa S 254 (Zbf MS 1)::Zak MS (Zaw (.int .i64 2)) sc::Zad 41 2 (.slice LA 2 lc) 2 (fvs Zn2)::F)):
  CA 184 #[.pointer (some ⟨kb,0,none⟩),.int .i64 1,.slice LA 2 lc,.bool false] w fun e w'=>e=.returned .nilIface/\∃A' c',Sep w' (Zaa kb 200 (Zaf C S M ord inn (.slice A' (n+13) c') iw ow un began part evs)::Zad 5 1 (.slice A' (n+13) c') (n+13) (bs (xs++rhdB))::Zak M (Zaw (.pointer (some ⟨X,0,none⟩))) mc::
   Zaa X 313 (Zbn ci co cu q false en)::Zaa S 254 (Zbf MS 1)::Zak MS (Zaw (.int .i64 2)) sc::F):=by
 have kK:=h.at_ (i:=2) rfl
 have kC:=h.at_ (i:=5) rfl
 have H:=Hd h
 unfold Zaf at kK
 unfold Zbn at kC
 clear h
 go_enter func184,ntmps184
 go_wp2_with fail
 refine(Zs9 H.out (i:=2) (i1:=6) (j:=7) rfl rfl rfl).mono ?_
 rintro e w' ⟨rfl,rfl⟩
 go_wp2_with fail
 refine(Zzn H.out (i:=2) (j:=4) rfl rfl).mono ?_
 rintro e w' ⟨rfl,rfl⟩
 go_wp2_with fail
 refine(Zmp H.out Zn2 rep_fok (by decide) Zud.2 LA _ lc 6 rfl rfl).mono ?_
 rintro e w2 ⟨PA,n2,pc,rfl,rfl,h2⟩
 rw[Zud.1]at h2⊢
 clear kK kC H
 have hcap:=h2.cap (i:=0) rfl
 have HR:=Hd (Zag h2 (i:=0) rfl)
 have H2:=Hd h2
 clear h2
 go_wp2_with fail
 refine(Zko 1 Zic PA Zic.length pc rfl (by decide) (by decide) hcap false w2 HR.out).mono ?_
 rintro e w3 ⟨g,c3,A3,ac,rfl,hb3,⟨q0,q1,q2,q3⟩,hr3⟩
 simp only[Bool.false_eq_true,if_false,Int.zero_add]at q1
 have h3:=H2.out.below hb3
 have HR3:=Hd hr3
 have hgl:=World.block_lt_of_cell? w3 _ q0
 have H3:=Hd h3
 clear h3 hr3 H2 HR hb3 hcap
 go_wp2
 refine wp_loop_rounds 2 ?_
 rw[rounds_succ]
 go_wp2_with fail
 have h4:=H3.out.newBlk 134 #[.int .i64 1,.int .i64 4,.int .i64 1,.slice A3 Zic.length ac]
 have hba:=(Below.refl w3.heap.size w3).alloc (Nat.le_refl _) (.cells #[.int .i64 1,.int .i64 4,.int .i64 1,.slice A3 Zic.length ac] 134)
 have HR4:=Hd ((HR3.out.below hba).more hba.size)
 have H4:=Hd ((h4.front 4 rfl).front 4 rfl)
 clear h4 hba HR3 H3 q0 q1 q2 q3 hgl
 refine(nsay rhdF Zyu.1 A3 ac HR4.out kb (xs:=xs) (by omega) H4.out).mono ?_
 rintro e w5 ⟨rfl,A5,c5,h5⟩
 rw[Zyu.2]at h5
 have kK:=h5.at_ (i:=0) rfl
 have H5:=Hd h5
 clear h5 H4 HR4
 go_wp2
 rw[rounds_succ]
 go_wp2_with fail
 refine(Zpi (.inr (.inr (.inl ⟨rfl,rfl⟩))) H5.out (i:=7) (j:=8) rfl rfl).mono ?_
 rintro e w6 ⟨rfl,h6⟩
 have H6:=Hd h6
 clear h6 H5 kK
 go_wp2
 go_ret
 exact⟨rfl,A5,c5,(((H6.out.drop_ 2).drop_ 2).drop_ 2).drop_ 6⟩
theorem Zro {w:World}{L:List Zae}{i i1 j kb C S M MS:Nat}{sl:List (Int×Value)}{ord inn out part evs:Value}{iw ow un last:Int}{began:Bool}(k:Nat)(hk:k < 1000)(hl:sid k<=last)(hv:Za8 sl (sid k)=some (.int .i64 2))(h:Sep w L)(hi:L[i]? =some (Zaa kb 200 (Zaf C S M ord inn out iw ow un began part evs)))
  (hi1:L[i1]? =some (Zaa S 254 (Zbf MS last))) (hj:L[j]? =some (Zan Zat MS sl)):
  CA 223 #[.pointer (some ⟨kb,0,none⟩),.int .i64 (sid k),.int .i64 1,.bool false] w fun e w'=>e=.returned (.tuple #[.int .i64 2,.nilIface])/\w=w':=by
 have kK:=h.at_ hi
 have HS:=Hd (Zgq k 2 hk hl hv h hi1 hj)
 obtain⟨id,hid⟩:=exl (sid k)
 rw[hid]at HS⊢
 unfold Zaf at kK
 clear h hi hi1 hj hv hl hid
 go_enter func223,ntmps223
 go_wp2_with fail
 refine Mo HS ?_
 rintro e w' ⟨rfl,rfl⟩
 go_wp2_with fail
 refine(Zkn w).mono ?_
 rintro e w' ⟨rfl,rfl⟩
 go_wp2
 go_ret2
 exact⟨rfl,rfl⟩
theorem Zrp {w:World}{L:List Zae}{i i1 j kb C S M MS:Nat}{sl:List (Int×Value)}{ord inn out part evs:Value}{iw ow un last:Int}{began:Bool}(k:Nat)(hk:k < 1000)(hl:sid k<=last)(hv:Za8 sl (sid k)=some (.int .i64 2))(h:Sep w L)(hi:L[i]? =some (Zaa kb 200 (Zaf C S M ord inn out iw ow un began part evs)))
  (hi1:L[i1]? =some (Zaa S 254 (Zbf MS last))) (hj:L[j]? =some (Zan Zat MS sl)):
  CA 223 #[.pointer (some ⟨kb,0,none⟩),.int .i64 (sid k),.int .i64 0,.bool true] w fun e w'=>e=.returned (.tuple #[.int .i64 4,.nilIface])/\w=w':=by
 have kK:=h.at_ hi
 have HS:=Hd (Zgq k 2 hk hl hv h hi1 hj)
 obtain⟨id,hid⟩:=exl (sid k)
 rw[hid]at HS⊢
 unfold Zaf at kK
 clear h hi hi1 hj hv hl hid
 go_enter func223,ntmps223
 go_wp2_with fail
 refine Mo HS ?_
 rintro e w' ⟨rfl,rfl⟩
 go_wp2_with fail
 refine(Zee w).mono ?_
 rintro e w' ⟨rfl,rfl⟩
 go_wp2
 go_ret2
 exact⟨rfl,rfl⟩
theorem Zxt {w:World}{F:List Zae}{kb C S M MS X n c gg hh lc tc k nl:Nat}{A LA TA:Option Addr}{ord inn part evs q:Value}{xs blk:List UInt8}{tx l:List Fld}{cl sl:List (Int×Value)}{iw ow un ci co cu last:Int}{began en:Bool}(hk:k < 1000)(hl:sid k<=last)(hcv:Za8 cl (sid k)=some (ptr X))(hsv:Za8 sl (sid k)=some (.int .i64 2))(hsd:(sl.map (·.1)).Nodup)(hn:n<=100000)
  (hf:∀f∈l,fOk f) (hll:l.length<=100) (hE:Ze7 l=0) (hnl:nl=l.length) (hblk:Za0 4096 tx l=blk) (hb0:0 < blk.length) (hb1:blk.length<=1024) (hfr:Zeq ⟨1,4,sid k,blk⟩=0)
  (h:Sep w (Zaa C 93 (Zai gg hh)::Zbw gg TA tc tx 4096::Zaa kb 200 (Zaf C S M ord inn (.slice A n c) iw ow un began part evs)::Zad 5 1 (.slice A n c) n (bs xs)::Zan Zat M cl::
   Zaa X 313 (Zbn ci co cu q false en)::Zaa S 254 (Zbf MS last)::Zan Zat MS sl::Zad 41 2 (.slice LA nl lc) nl (fvs l)::F)):
  CA 184 #[.pointer (some ⟨kb,0,none⟩),.int .i64 (sid k),.slice LA nl lc,.bool false] w fun e w'=>e=.returned .nilIface/\∃A' c' TA' tc',Sep w' (Zaa C 93 (Zai gg hh)::Zbw gg TA' tc' (Zcs 4096 tx l) 4096::Zaa kb 200 (Zaf C S M ord inn (.slice A' (n+(Zbh ⟨1,4,sid k,blk⟩).length) c') iw ow un began part evs)::Zad 5 1 (.slice A' (n+(Zbh ⟨1,4,sid k,blk⟩).length) c') (n+(Zbh ⟨1,4,sid k,blk⟩).length) (bs (xs++Zbh ⟨1,4,sid k,blk⟩))::Zan Zat M cl::
   Zaa X 313 (Zbn ci co cu q false en)::Zaa S 254 (Zbf MS last)::Zan Zat MS (Ze3 sl (sid k) (.int .i64 2))::F):=by
 have kK:=h.at_ (i:=2) rfl
 have kC:=h.at_ (i:=5) rfl
 have HM:=Hd (Zro k hk hl hsv h (i:=2) (i1:=6) (j:=7) rfl rfl rfl)
 have HO:=Hd (Zx0 h (i:=2) (j:=4) rfl rfl hcv)
 have HE:=Hd (Zyk h l hf (by omega) hE LA nl lc 6 hnl rfl)
 rw[hblk]at HE
 have HPU:=Hd (fun(w5:World) L5 (h5:Sep w5 L5) (i6:L5[7]? =some (Zaa S 254 (Zbf MS last))) (i7:L5[8]? =some (Zan Zat MS sl))=>Ztw k 2 2 hk (.inr (.inl rfl)) (by decide) hl hsv hsd h5 i6 i7)
 have HBL:=Hd (And.intro hb0 (And.intro hb1 (And.intro hfr hn)))
 obtain⟨id,hid⟩:=exl (sid k)
 rw[hid]at HM HO HPU HBL⊢
 obtain⟨fb,hfb⟩:=exl (Zbh ⟨1,4,id,blk⟩)
 have HFB:=Hd hfb
 rw[hfb]
 clear hfb
 unfold Zaf at kK
 unfold Zbn at kC
 clear h hk hl hcv hsv hsd hn hf hll hE hnl hblk hb0 hb1 hfr hid
 go_enter func184,ntmps184
 go_wp2_with fail
 refine Mo HM ?_
 rintro e w' ⟨rfl,rfl⟩
 go_wp2_with fail
 refine Mo HO ?_
 rintro e w' ⟨rfl,rfl⟩
 go_wp2_with fail
 refine Mo HE ?_
 rintro e w2 ⟨PA,n2,pc,rfl,rfl,TA2,tc2,h2⟩
 clear kK kC HM HO HE
 have hcap:=h2.cap (i:=0) rfl
 have HR:=Hd (Zag h2 (i:=0) rfl)
 have H2:=Hd h2
 clear h2
 go_wp2_with fail
 refine(Zko id blk PA blk.length pc rfl HBL.out.1 HBL.out.2.1 hcap false w2 HR.out).mono ?_
 rintro e w3 ⟨g,c3,A3,ac,rfl,hb3,⟨q0,q1,q2,q3⟩,hr3⟩
 simp only[Bool.false_eq_true,if_false,Int.zero_add]at q1
 have h3:=H2.out.below hb3
 have HR3:=Hd hr3
 have hgl:=World.block_lt_of_cell? w3 _ q0
 have H3:=Hd h3
 clear h3 hr3 H2 HR hb3 hcap
 go_wp2
 refine wp_loop_rounds 2 ?_
 rw[rounds_succ]
 go_wp2_with fail
 have h4:=H3.out.newBlk 134 #[.int .i64 1,.int .i64 4,.int .i64 id,.slice A3 blk.length ac]
 have hba:=(Below.refl w3.heap.size w3).alloc (Nat.le_refl _) (.cells #[.int .i64 1,.int .i64 4,.int .i64 id,.slice A3 blk.length ac] 134)
 have HR4:=Hd ((HR3.out.below hba).more hba.size)
 have h5:=Sep.ordN h4 11 [4,5,2,3,6,7,1,8,9,0,10] rfl (by decide)
 simp only[Zbo,Zbd,Zam]at h5
 have H4:=Hd h5
 clear h4 h5 hba HR3 H3 q0 q1 q2 q3 hgl
 have HSY:=Hd (nsay ⟨1,4,id,blk⟩ HBL.out.2.2.1 A3 ac HR4.out kb (xs:=xs) HBL.out.2.2.2 H4.out)
 rw[HFB.out]at HSY
 clear HFB HR4 H4 HBL
 refine Mo HSY ?_
 rintro e w5 ⟨rfl,A5,c5,h5⟩
 have kK:=h5.at_ (i:=0) rfl
 have H5:=Hd h5
 clear h5 HSY
 go_wp2
 rw[rounds_succ]
 go_wp2_with fail
 refine(HPU.out _ _ H5.out rfl rfl).mono ?_
 rintro e w6 ⟨rfl,h6⟩
 have h7:=Sep.ordN h6 11 [2,3,0,1,4,5,7,8] rfl (by decide)
 simp only[List.set_cons_succ,List.set_cons_zero,Zbo,Zam,Zbd,List.cons_append,List.nil_append,List.drop_succ_cons,List.drop_zero]at h7
 have H6:=Hd h7
 clear h6 h7 H5 kK HPU
 go_wp2
 go_ret
 exact⟨rfl,A5,c5,TA2,tc2,H6.out⟩
theorem cn_data {w:World}{F:List Zae}{kb C S M MS X bc mc sc:Nat}{BA:Option Addr}{ord inn out part:Value}{ow:Int}{began:Bool}
  (h:Sep w (Zad 5 1 (.slice BA 1 bc) 1 (bs [120])::Zaa kb 200 (Zaf C S M ord inn out 2000 ow 0 began part (.slice none 0 0))::Zak M (Zaw (.pointer (some ⟨X,0,none⟩))) mc::Zaa X 313 (Zbn 2000 2000 0 (.slice none 0 0) false false)::
   Zaa S 254 (Zbf MS 1)::Zak MS (Zaw (.int .i64 1)) sc::F)):
  CA 215 #[.pointer (some ⟨kb,0,none⟩),.agg #[.int .i64 0,.int .i64 1,.int .i64 1,.slice BA 1 bc]] w fun e w'=>e=.returned (.tuple #[])/\∃E ec,Sep w' (Zaa kb 200 (Zaf C S M ord inn out 1999 ow 1 began part (.slice E 1 ec))::
   Zad 215 6 (.slice E 1 ec) 1 (evV 2 1 0 (.slice none 0 0) (.slice BA 1 bc) true).toList::Zad 5 1 (.slice BA 1 bc) 1 (bs [120])::Zak M (Zaw (.pointer (some ⟨X,0,none⟩))) mc::Zaa X 313 (Zbn 1999 2000 1 (.slice none 0 0) false false)::
   Zaa S 254 (Zbf MS 1)::Zak MS (Zaw (.int .i64 2)) sc::F):=by
 have h1:=h.newBlk 134 #[.int .i64 0,.int .i64 1,.int .i64 1,.slice BA 1 bc]
 have kX:=h1.at_ (i:=0) rfl
 have H1:=Hd h1
 have b11:(bits .and .i64 1 1 !=0)=true:=by decide
 clear h h1
 go_enter func215,ntmps215
 go_wp2
 go_quiet (fail)
 obtain⟨w2,hw2⟩:=exl ((w.alloc (.cells #[.int .i64 0,.int .i64 1,.int .i64 1,.slice BA 1 bc] 134)).drewN nq)
 have h2:=H1.out.drewN nq
 rw[hw2]at h2⊢
 clear kX H1 hw2
 have kX:=h2.at_ (i:=0) rfl
 have kK:=h2.at_ (i:=2) rfl
 have H2:=Hd h2
 unfold Zaf at kK
 clear h2
 go_wp2_with fail
 refine(nc_stop1 H2.out (i:=2) (j:=3) (k:=4) rfl rfl rfl).mono ?_
 rintro e w' ⟨rfl,rfl⟩
 go_wp2_with fail
 refine(Zef H2.out (i:=5) (j:=6) rfl rfl).mono ?_
 rintro e w' ⟨rfl,rfl⟩
 go_wp2_with fail
 refine(Zjj w2).mono ?_
 rintro e w' ⟨rfl,rfl⟩
 go_wp2_with fail
 refine(Zcy H2.out (i:=2) (b:=kb) (o:=6) (n:=2000) (k:=1) rfl rfl (by decide) (by decide)).mono ?_
 rintro e w3 ⟨rfl,h3⟩
 change Sep w3 (_::_::Zaa kb _ (Zaf C S M ord inn out 1999 ow 0 began part (.slice none 0 0))::_)at h3
 clear kX kK
 have kX:=h3.at_ (i:=0) rfl
 have kK:=h3.at_ (i:=2) rfl
 have kC:=h3.at_ (i:=4) rfl
 have n1:=h3.ne_ (i:=2) (i':=4) rfl rfl (by decide)
 have n2:=Ne.symm n1
 have n3:=h3.ne_ (i:=0) (i':=4) rfl rfl (by decide)
 have n4:=Ne.symm n3
 have n5:=h3.ne_ (i:=0) (i':=2) rfl rfl (by decide)
 have n6:=Ne.symm n5
 have H3:=Hd h3
 unfold Zaf at kK
 unfold Zbn at kC
 clear h3
 go_wp2_with fail
 refine(Zzn H3.out (i:=2) (j:=3) rfl rfl).mono ?_
 rintro e w' ⟨rfl,rfl⟩
 go_wp2_with fail
 obtain⟨w4,hw4⟩:=exl ((w3.setCell ⟨X,2,none⟩ (.int .i64 1)).setCell ⟨kb,9,none⟩ (.int .i64 1))
 have h4:=(H3.out.set_ (i:=4) rfl 2 (.int .i64 1)).set_ (i:=2) rfl 9 (.int .i64 1)
 rw[hw4]at h4⊢
 change Sep w4 (_::_::Zaa kb _ (Zaf C S M ord inn out 1999 ow 1 began part (.slice none 0 0))::_::Zaa X _ (Zbn 2000 2000 1 (.slice none 0 0) false false)::_)at h4
 clear kX kK kC n1 n2 n3 n4 n5 n6 hw4
 have kX:=h4.at_ (i:=0) rfl
 have kK:=h4.at_ (i:=2) rfl
 have H4:=Hd h4
 unfold Zaf at kK
 clear h4
 refine(Zcy H4.out (i:=4) (b:=X) (o:=0) (n:=2000) (k:=1) rfl rfl (by decide) (by decide)).mono ?_
 rintro e w5 ⟨rfl,h5⟩
 change Sep w5 (_::_::_::_::Zaa X _ (Zbn 1999 2000 1 (.slice none 0 0) false false)::_)at h5
 clear kX kK
 have kX:=h5.at_ (i:=0) rfl
 have kK:=h5.at_ (i:=2) rfl
 have H5:=Hd h5
 unfold Zaf at kK
 clear h5
 go_wp2_with fail
 refine(Zpi (.inr (.inl ⟨rfl,rfl⟩)) H5.out (i:=5) (j:=6) rfl rfl).mono ?_
 rintro e w6 ⟨rfl,h6⟩
 clear kX kK
 have kX:=h6.at_ (i:=0) rfl
 have H6:=Hd (h6.front 2 rfl)
 clear h6
 go_wp2_with fail
 refine(Zup 2 1 0 none BA 0 0 1 bc true H6.out).mono ?_
 rintro e w7 ⟨rfl,E,ec,h7⟩
 have H7:=Hd h7
 clear h7 H6 H5 H4 H3 H2 kX
 go_wp2
 refine bodyPost_end (results_none rfl _ _ _) rfl ?_
 exact⟨rfl,E,ec,H7.out.drop_ 2⟩
end
end Go.Proofs.YtbgnggkgmeagkaaGreatDoor
