/-
  A part of the proof of TopAlike: each theorem states its own conditions.
-/
import Derived.Test.YtbgnggkgmeagkaaGreatDoorMTopAlikeVIter2
import Derived.Test.YtbgnggkgmeagkaaGreatDoorMTopAlike22
set_option linter.unusedSimpArgs false
set_option linter.unusedVariables false
set_option maxRecDepth 100000
set_option maxHeartbeats 16000000
namespace Go.Proofs.YtbgnggkgmeagkaaGreatDoor
open Go.Proofs.Tryz
section
open Go.RowKit Go.Shelf
def Zjc (w:World)(g:Nat):Prop:=w.cell? ⟨g,0,none⟩=some (.string ⟨#[]⟩)/\w.cell? ⟨g,1,none⟩=some (.string ⟨#[47]⟩)/\w.cell? ⟨g,2,none⟩=some (.string ⟨#[97,108,108]⟩)/\w.cell? ⟨g,3,none⟩=some (.string ⟨#[]⟩)/\w.cell? ⟨g,4,none⟩=some (.string ⟨#[47,97]⟩)/\w.cell? ⟨g,5,none⟩=some (.string ⟨#[111,110,101]⟩)
theorem Zjc.below {w w':World}{g:Nat}(h:Zjc w g)(hb:Below w.heap.size w w'):Zjc w' g:=⟨Zaj hb h.1,Zaj hb h.2.1,Zaj hb h.2.2.1,Zaj hb h.2.2.2.1,Zaj hb h.2.2.2.2.1,Zaj hb h.2.2.2.2.2⟩
theorem vt_clos {w:World}{X:Nat}(h0:w.cell? ⟨X,0,none⟩=some (.string ⟨#[]⟩))(h1:w.cell? ⟨X,1,none⟩=some (.string ⟨#[47,97]⟩)):
  CA 154 #[.agg #[.string ⟨#[]⟩,.string ⟨#[47]⟩,.string ⟨#[97,108,108]⟩],.pointer (some ⟨X,0,none⟩)] w fun e w'=>e=.returned (.bool false)/\Below w.heap.size w w':=by
 have xl:=World.block_lt_of_cell? w _ h0
 have e1:(ByteArray.mk #[47]==ByteArray.mk #[47,97])=false:=by decide
 have HB:=Hd ((Below.refl w.heap.size w).alloc (Nat.le_refl _) (.cells #[.string ⟨#[]⟩,.string ⟨#[47]⟩,.string ⟨#[97,108,108]⟩] 47))
 go_enter func154,ntmps154
 go_wp2
 go_ret
 exact⟨rfl,HB.out⟩
theorem vt_index {w:World}{X g c:Nat}(hg:Zrg w g)(hc:1<=c)(h0:w.cell? ⟨X,0,none⟩=some (.string ⟨#[]⟩))(h1:w.cell? ⟨X,1,none⟩=some (.string ⟨#[47,97]⟩)):
  CA 209 #[.slice (some ⟨g,0,none⟩) 1 c,.func (.func 154) #[] #[.pointer (some ⟨X,0,none⟩)]] w fun e w'=>e=.returned (.int .i64 (-1))/\Below w.heap.size w w':=by
 have HF:=Hd (vt_clos h0 h1)
 obtain⟨c0,c1,c2⟩:=hg
 have gl:=World.block_lt_of_cell? w _ c0
 clear h0 h1
 go_enter func209,ntmps209
 go_wp2
 refine wp_loop_rounds 2 ?_
 rw[rounds_succ]
 go_wp2_with fail
 refine Mo HF ?_
 rintro e w1 ⟨rfl,hb⟩
 have HB:=Hd hb
 clear hb
 go_wp2
 rw[rounds_succ]
 go_wp2
 go_ret
 exact⟨rfl,HB.out⟩
theorem vt_has {w:World}{X g c:Nat}(hg:Zrg w g)(hc:1<=c)(h0:w.cell? ⟨X,0,none⟩=some (.string ⟨#[]⟩))(h1:w.cell? ⟨X,1,none⟩=some (.string ⟨#[47,97]⟩)):
  CA 153 #[.slice (some ⟨g,0,none⟩) 1 c,.func (.func 154) #[] #[.pointer (some ⟨X,0,none⟩)]] w fun e w'=>e=.returned (.bool false)/\Below w.heap.size w w':=by
 have HF:=Hd (vt_index hg hc h0 h1)
 clear hg hc h0 h1
 go_enter func153,ntmps153
 go_wp2_with fail
 refine Mo HF ?_
 rintro e w1 ⟨rfl,hb⟩
 go_wp2
 go_ret
 exact⟨rfl,hb⟩
theorem vt_one0 (g c:Nat)(hc:2<=c)(w:World)(h:Zrg w g):
  CA 99 #[.slice (some ⟨g,0,none⟩) 2 c,.int .i64 0] w fun e w'=>e=.returned .nilIface/\Below w.heap.size w w':=by
 obtain⟨h0,h1,h2⟩:=h
 have hb:=(Below.refl w.heap.size w).alloc (Nat.le_refl _) (.cells #[.string ⟨#[]⟩,.string ⟨#[47]⟩,.string ⟨#[97,108,108]⟩] 47)
 have HB:=Hd hb
 have HK:=Hd (Blk.new w 47 #[.string ⟨#[]⟩,.string ⟨#[47]⟩,.string ⟨#[97,108,108]⟩])
 have q1:=Tryz.strings_HasPrefix ⟨#[47]⟩ ⟨#[47]⟩ (w.alloc (.cells #[.string ⟨#[]⟩,.string ⟨#[47]⟩,.string ⟨#[97,108,108]⟩] 47))
 have HP:=Hd q1
 clear hb q1
 go_enter func99,ntmps99
 go_wp2_with fail
 refine Mo HP ?_
 rintro e w' ⟨rfl,rfl⟩
 rw[show Lib.hasPrefix [47] [47]=true from by decide]
 have k1:=HK.out.cell 1
 go_wp2_with fail
 refine(Zh5 [47] (by decide) _).mono ?_
 rintro e w1 ⟨rfl,hb1⟩
 rw[show Zc4 [47]=true from by decide]
 have HB1:=Hd (HB.out.trans (hb1.mono HB.out.size))
 have hk1:=HK.out.below hb1 HK.out.lt
 have k2:=hk1.cell 2
 have HK1:=Hd hk1
 clear hb1 hk1
 go_wp2_with fail
 refine(Ze5 [97,108,108] (by decide) _).mono ?_
 rintro e w2 ⟨rfl,hb2⟩
 rw[show Zgi [97,108,108]=true from by decide]
 have HB2:=Hd (HB1.out.trans (hb2.mono HB1.out.size))
 clear hb2
 go_wp2_with (go_at_call 153;refine(rt_has _ _ _ _).mono ?_;rintro e w' ⟨rfl,rfl⟩)
 go_ret
 exact⟨rfl,HB2.out⟩
theorem vt_one1 (g c:Nat)(hc:2<=c)(w:World)(h:Zjc w g):
  CA 99 #[.slice (some ⟨g,0,none⟩) 2 c,.int .i64 1] w fun e w'=>e=.returned .nilIface/\Below w.heap.size w w':=by
 have HR:=Hd h
 obtain⟨-,-,-,h0,h1,h2⟩:=h
 have hb:=(Below.refl w.heap.size w).alloc (Nat.le_refl _) (.cells #[.string ⟨#[]⟩,.string ⟨#[47,97]⟩,.string ⟨#[111,110,101]⟩] 47)
 have HB:=Hd hb
 have HK:=Hd (Blk.new w 47 #[.string ⟨#[]⟩,.string ⟨#[47,97]⟩,.string ⟨#[111,110,101]⟩])
 have q1:=Tryz.strings_HasPrefix ⟨#[47,97]⟩ ⟨#[47]⟩ (w.alloc (.cells #[.string ⟨#[]⟩,.string ⟨#[47,97]⟩,.string ⟨#[111,110,101]⟩] 47))
 have HP:=Hd q1
 clear hb q1
 go_enter func99,ntmps99
 go_wp2_with fail
 refine Mo HP ?_
 rintro e w' ⟨rfl,rfl⟩
 rw[show Lib.hasPrefix [47,97] [47]=true from by decide]
 have k1:=HK.out.cell 1
 go_wp2_with fail
 refine(Zh5 [47,97] (by decide) _).mono ?_
 rintro e w1 ⟨rfl,hb1⟩
 rw[show Zc4 [47,97]=true from by decide]
 have HB1:=Hd (HB.out.trans (hb1.mono HB.out.size))
 have hk1:=HK.out.below hb1 HK.out.lt
 have k2:=hk1.cell 2
 have HK1:=Hd hk1
 clear hb1 hk1
 go_wp2_with fail
 refine(Ze5 [111,110,101] (by decide) _).mono ?_
 rintro e w2 ⟨rfl,hb2⟩
 rw[show Zgi [111,110,101]=true from by decide]
 have HB2:=Hd (HB1.out.trans (hb2.mono HB1.out.size))
 have hk2:=HK1.out.below hb2 HK1.out.lt
 have hr2:=HR.out.below HB2.out
 have HH:=Hd (vt_has (c:=c) ⟨hr2.1,hr2.2.1,hr2.2.2.1⟩ (by omega) (hk2.cell 0) (hk2.cell 1))
 clear hb2 hk2 hr2 h0 h1 h2 k1 k2
 go_wp2_with (go_at_call 153;refine HH.out.mono ?_;rintro e w3 ⟨rfl,hb3⟩;have HB3:=Hd (HB2.out.trans (hb3.mono HB2.out.size));clear hb3)
 go_ret
 exact⟨rfl,HB3.out⟩
theorem Ztv (g c:Nat)(hc:2<=c)(w:World)(h:Zjc w g):
  CA 49 #[.slice (some ⟨g,0,none⟩) 2 c] w fun e w'=>e=.returned .nilIface/\Below w.heap.size w w':=by
 have H:=Hd h
 clear h
 go_enter func49,ntmps49
 go_wp2
 refine wp_loop_rounds 3 ?_
 rw[rounds_succ]
 go_wp2_with fail
 refine(vt_one0 g c hc w ⟨H.out.1,H.out.2.1,H.out.2.2.1⟩).mono ?_
 rintro e w1 ⟨rfl,hb⟩
 have HB:=Hd hb
 clear hb
 go_wp2
 rw[rounds_succ]
 go_wp2_with fail
 refine(vt_one1 g c hc w1 (H.out.below HB.out)).mono ?_
 rintro e w2 ⟨rfl,hb⟩
 have HB2:=Hd (HB.out.trans (hb.mono HB.out.size))
 clear hb
 go_wp2
 rw[rounds_succ]
 go_wp2
 go_ret
 exact⟨rfl,HB2.out⟩
def fit0 (p:List UInt8):Bool:=Lib.hasPrefix p [47]
def fit1 (p:List UInt8):Bool:=Lib.hasPrefix p [47,97] && (match Lib.trimPrefix p [47,97]with | []=>true | a::_=>decide (a=47))
theorem Z1o (a:UInt8)(t:List UInt8):(ByteArray.mk (a::t).toArray==ByteArray.mk #[])=false:=by
 rw[Z1p]
 simp
theorem ba_first (a:UInt8)(t:List UInt8)(hh:0 < (ByteArray.mk (a::t).toArray).size):(((((ByteArray.mk (a::t).toArray)[0]'hh).toNat:Nat):Int)==47)=decide (a=47):=by
 have h1:(ByteArray.mk (a::t).toArray)[0]'hh=a:=rfl
 rw[h1]
 by_cases h:a=47
 ·subst h;rfl
 ·have h2:a.toNat≠47:=fun e=>h (UInt8.toNat_inj.1 (by simpa using e))
  simp[h]
  omega
theorem vt_fits0 (h p:List UInt8)(w:World):
  CA 316 #[.agg #[.string ⟨#[]⟩,.string ⟨#[47]⟩,.string ⟨#[97,108,108]⟩],.string ⟨h.toArray⟩,.string ⟨p.toArray⟩] w fun e w'=>e=.returned (.bool (fit0 p))/\Below w.heap.size w w':=by
 have Q1:=Hd (Tryz.strings_CutPrefix ⟨p.toArray⟩ ⟨#[47]⟩ (w.alloc (.cells #[.string ⟨#[]⟩,.string ⟨#[47]⟩,.string ⟨#[97,108,108]⟩] 47)))
 have Q2:=Hd (fun w=>Tryz.strings_HasSuffix ⟨#[47]⟩ ⟨#[47]⟩ w (by decide))
 have e2:Lib.hasSuffix [47] [47]=true:=by decide
 have HB:=Hd ((Below.refl w.heap.size w).alloc (Nat.le_refl _) (.cells #[.string ⟨#[]⟩,.string ⟨#[47]⟩,.string ⟨#[97,108,108]⟩] 47))
 unfold fit0
 obtain⟨b,hb⟩:=exl (Lib.hasPrefix p [47])
 obtain⟨r,hr⟩:=exl (Lib.trimPrefix p [47])
 rw[hb]
 rcases b with _ | _
 ·go_enter func316,ntmps316
  go_wp2_with (go_at_call 174;refine Q1.out.mono ?_;rintro e w' ⟨rfl,rfl⟩;simp only[hb,hr])
  go_wp2
  go_ret
  exact⟨rfl,HB.out⟩
 ·rcases r with _ | ⟨a,t⟩
  ·go_enter func316,ntmps316
   go_wp2_with (go_at_call 174;refine Q1.out.mono ?_;rintro e w' ⟨rfl,rfl⟩;simp only[hb,hr])
   go_wp2
   go_ret
   exact⟨rfl,HB.out⟩
  ·have e3:=Z1o a t
   go_enter func316,ntmps316
   go_wp2_with (first
    | (go_at_call 174;refine Q1.out.mono ?_;rintro e w' ⟨rfl,rfl⟩;simp only[hb,hr])
    | (go_at_call 325;refine(Q2.out _).mono ?_;rintro e w' ⟨rfl,rfl⟩;simp only[e2]))
   all_goals
    go_ret
    exact⟨rfl,HB.out⟩
theorem vt_fits1 (h p:List UInt8)(w:World):
  CA 316 #[.agg #[.string ⟨#[]⟩,.string ⟨#[47,97]⟩,.string ⟨#[111,110,101]⟩],.string ⟨h.toArray⟩,.string ⟨p.toArray⟩] w fun e w'=>e=.returned (.bool (fit1 p))/\Below w.heap.size w w':=by
 have Q1:=Hd (Tryz.strings_CutPrefix ⟨p.toArray⟩ ⟨#[47,97]⟩ (w.alloc (.cells #[.string ⟨#[]⟩,.string ⟨#[47,97]⟩,.string ⟨#[111,110,101]⟩] 47)))
 have Q2:=Hd (fun w=>Tryz.strings_HasSuffix ⟨#[47,97]⟩ ⟨#[47]⟩ w (by decide))
 have e2:Lib.hasSuffix [47,97] [47]=false:=by decide
 have HB:=Hd ((Below.refl w.heap.size w).alloc (Nat.le_refl _) (.cells #[.string ⟨#[]⟩,.string ⟨#[47,97]⟩,.string ⟨#[111,110,101]⟩] 47))
 unfold fit1
 obtain⟨b,hb⟩:=exl (Lib.hasPrefix p [47,97])
 obtain⟨r,hr⟩:=exl (Lib.trimPrefix p [47,97])
 rw[hb,hr]
 rcases b with _ | _
 ·go_enter func316,ntmps316
  go_wp2_with (go_at_call 174;refine Q1.out.mono ?_;rintro e w' ⟨rfl,rfl⟩;simp only[hb,hr])
  go_wp2
  go_ret
  exact⟨rfl,HB.out⟩
 ·rcases r with _ | ⟨a,t⟩
  ·go_enter func316,ntmps316
   go_wp2_with (go_at_call 174;refine Q1.out.mono ?_;rintro e w' ⟨rfl,rfl⟩;simp only[hb,hr])
   go_wp2
   go_ret
   exact⟨rfl,HB.out⟩
  ·have e3:=Z1o a t
   have e4:=ba_first a t
   go_enter func316,ntmps316
   go_wp2_with (first
    | (go_at_call 174;refine Q1.out.mono ?_;rintro e w' ⟨rfl,rfl⟩;simp only[hb,hr])
    | (go_at_call 325;refine(Q2.out _).mono ?_;rintro e w' ⟨rfl,rfl⟩;simp only[e2]))
   all_goals
    go_ret
    exact⟨rfl,HB.out⟩
def fitV (p:List UInt8):Value:=if fit1 p then .tuple #[.int .i64 1,.nilIface]else if fit0 p then .tuple #[.int .i64 0,.nilIface]else .tuple #[.int .i64 0,.iface 95 (.int .i64 5)]
theorem vt_find (h p:List UInt8)(g c:Nat)(hc:2<=c)(w:World)(hg:Zjc w g):
  CA 287 #[.slice (some ⟨g,0,none⟩) 2 c,.string ⟨h.toArray⟩,.string ⟨p.toArray⟩] w fun e w'=>e=.returned (fitV p)/\Below w.heap.size w w':=by
 have HC:=Hd (Ztv g c hc w hg)
 have HR:=Hd hg
 have HF0:=Hd (vt_fits0 h p)
 have HF1:=Hd (vt_fits1 h p)
 have h10:fit1 p=true->fit0 p=true:=by
  unfold fit1 fit0 Lib.hasPrefix
  intro hx
  simp only[Bool.and_eq_true]at hx
  have hx1:=hx.1
  rcases p with _ | ⟨a,p⟩
  ·simp at hx1
  ·rcases p with _ | ⟨b,p⟩ <;> simp at hx1⊢
   exact hx1.1
 unfold fitV
 obtain⟨b0,hb0⟩:∃b,fit0 p=b:=⟨_,rfl⟩
 obtain⟨b1,hb1⟩:∃b,fit1 p=b:=⟨_,rfl⟩
 rw[hb0]at h10 HF0⊢
 rw[hb1]at h10 HF1⊢
 have hbb:(b0=false/\b1=false)∨(b0=true/\b1=false)∨(b0=true/\b1=true):=by
  cases b0 <;> cases b1 <;> simp_all
 clear h10 hg hb0 hb1
 rcases hbb with⟨rfl,rfl⟩ | ⟨rfl,rfl⟩ | ⟨rfl,rfl⟩
 all_goals
  go_enter func287,ntmps287
  go_wp2_with fail
  refine Mo HC ?_
  rintro e w1 ⟨rfl,hb1⟩
  obtain⟨c0,c1,c2,c3,c4,c5⟩:=HR.out.below hb1
  have hgl:=World.block_lt_of_cell? w1 _ c0
  have HB:=Hd hb1
  clear hb1
  go_wp2
  refine wp_loop_rounds 3 ?_
  rw[rounds_succ]
  go_wp2
  obtain⟨W,hW⟩:=exl (w1.alloc (.cells #[.string ⟨#[]⟩,.string ⟨#[47]⟩,.string ⟨#[97,108,108]⟩] 47))
  have kX:=Blk.new w1 47 #[.string ⟨#[]⟩,.string ⟨#[47]⟩,.string ⟨#[97,108,108]⟩]
  have hbW:Below w.heap.size w W:=by rw[<-hW];exact HB.out.trans (((Below.refl _ w1).alloc (Nat.le_refl _) _).mono HB.out.size)
  rw[hW]at kX⊢
  have HKX:=Hd kX
  have HBW:=Hd hbW
  clear hW kX hbW c0 c1 c2 c3 c4 c5 hgl
  refine Zd3 (fun w'=>Below W.heap.size W w') (by kernel_rfl) (by kernel_rfl) ?_ fun hne=> ?_
  ·exact(Below.refl _ _).drew
  have z0:∀x:WIn (fun w'=>Below W.heap.size W w'),x.w.cell? ⟨w1.heap.size,0,none⟩=some (.string ⟨#[]⟩):=fun x=>(HKX.out.below x.h HKX.out.lt).cell 0
  have z1:∀x:WIn (fun w'=>Below W.heap.size W w'),x.w.cell? ⟨w1.heap.size,1,none⟩=some (.string ⟨#[47]⟩):=fun x=>(HKX.out.below x.h HKX.out.lt).cell 1
  have z2:∀x:WIn (fun w'=>Below W.heap.size W w'),x.w.cell? ⟨w1.heap.size,2,none⟩=some (.string ⟨#[97,108,108]⟩):=fun x=>(HKX.out.below x.h HKX.out.lt).cell 2
  repeat (first | go_big_quiet_skip | (go_big_quiet_want;go_big_quiet_op;go_big_quiet_on))
  go_big_quiet_want
  go_big_quiet_op
  refine⟨_,fun x=>Zcg (HF0.out x.w) (fun e w9 h9=>⟨h9.1,x.h.trans (h9.2.mono x.h.size)⟩),?_⟩
  go_big_quiet_on
  repeat (first | go_big_quiet_skip | (go_big_quiet_want;go_big_quiet_op;go_big_quiet_on))
  refine wpQuiet_nil ?_
  intro w9 hw9
  obtain⟨x,rfl⟩:=hw9
  obtain⟨w2,hb2⟩:=x
  simp only
  have HB2:=Hd (HBW.out.trans (hb2.mono HBW.out.size))
  clear z0 z1 z2 hne hb2 HKX HBW HB
  obtain⟨c0,c1,c2,c3,c4,c5⟩:=HR.out.below HB2.out
  have hgl:=World.block_lt_of_cell? w2 _ c0
  go_wp2
  rw[rounds_succ]
  go_wp2
  obtain⟨W2,hW⟩:=exl (w2.alloc (.cells #[.string ⟨#[]⟩,.string ⟨#[47,97]⟩,.string ⟨#[111,110,101]⟩] 47))
  have kX:=Blk.new w2 47 #[.string ⟨#[]⟩,.string ⟨#[47,97]⟩,.string ⟨#[111,110,101]⟩]
  have hbW:Below w.heap.size w W2:=by rw[<-hW];exact HB2.out.trans (((Below.refl _ w2).alloc (Nat.le_refl _) _).mono HB2.out.size)
  rw[hW]at kX⊢
  have HKX:=Hd kX
  have HBW:=Hd hbW
  have HRW:=Hd (HR.out.below hbW)
  have hgW:=World.block_lt_of_cell? W2 _ HRW.out.1
  have HGW:=Hd hgW
  clear hW kX hbW hgW c0 c1 c2 c3 c4 c5 hgl
  refine Zd3 (fun w'=>Below W2.heap.size W2 w') (by kernel_rfl) (by kernel_rfl) ?_ fun hne=> ?_
  ·exact(Below.refl _ _).drew
  have z0:∀x:WIn (fun w'=>Below W2.heap.size W2 w'),x.w.cell? ⟨w2.heap.size,0,none⟩=some (.string ⟨#[]⟩):=fun x=>(HKX.out.below x.h HKX.out.lt).cell 0
  have z1:∀x:WIn (fun w'=>Below W2.heap.size W2 w'),x.w.cell? ⟨w2.heap.size,1,none⟩=some (.string ⟨#[47,97]⟩):=fun x=>(HKX.out.below x.h HKX.out.lt).cell 1
  have z2:∀x:WIn (fun w'=>Below W2.heap.size W2 w'),x.w.cell? ⟨w2.heap.size,2,none⟩=some (.string ⟨#[111,110,101]⟩):=fun x=>(HKX.out.below x.h HKX.out.lt).cell 2
  have y0:∀x:WIn (fun w'=>Below W2.heap.size W2 w'),x.w.cell? ⟨g,0,none⟩=some (.string ⟨#[]⟩):=fun x=>(HRW.out.below x.h).1
  have y1:∀x:WIn (fun w'=>Below W2.heap.size W2 w'),x.w.cell? ⟨g,1,none⟩=some (.string ⟨#[47]⟩):=fun x=>(HRW.out.below x.h).2.1
  repeat (first | go_big_quiet_skip | (go_big_quiet_want;go_big_quiet_op;go_big_quiet_on))
  go_big_quiet_want
  go_big_quiet_op
  refine⟨_,fun x=>Zcg (HF1.out x.w) (fun e w9 h9=>⟨h9.1,x.h.trans (h9.2.mono x.h.size)⟩),?_⟩
  go_big_quiet_on
  repeat (first | go_big_quiet_skip | (go_big_quiet_want;go_big_quiet_op;go_big_quiet_on))
  refine wpQuiet_nil ?_
  intro w9 hw9
  obtain⟨x,rfl⟩:=hw9
  obtain⟨w3,hb3⟩:=x
  simp only
  have HB3:=Hd (HBW.out.trans (hb3.mono HBW.out.size))
  clear z0 z1 z2 y0 y1 hne hb3 HKX HBW HB2 HRW HGW
  go_wp2
  rw[rounds_succ]
  go_wp2
  go_ret2
  exact⟨rfl,HB3.out⟩
def Zrv (r:List UInt8):List UInt8:=if Lib.hasPrefix r [47]then r else 47::r
def Zpp (p:List UInt8):Value:=if fit1 p then .tuple #[.string ⟨#[111,110,101]⟩,.string ⟨(Zrv (Lib.trimPrefix p [47,97])).toArray⟩,.nilIface]else if fit0 p then .tuple #[.string ⟨#[97,108,108]⟩,.string ⟨(Zrv (Lib.trimPrefix p [47])).toArray⟩,.nilIface]else .tuple #[.string ⟨#[]⟩,.string ⟨#[]⟩,.iface 95 (.int .i64 5)]
theorem Zvc (r:List UInt8):ByteArray.mk #[47]++ByteArray.mk r.toArray=ByteArray.mk (47::r).toArray:=by
 apply ByteArray.ext
 simp[ByteArray.data_append]
theorem Zt2 (p a:List UInt8):(Lib.trimPrefix p a).length<=p.length:=by
 unfold Lib.trimPrefix
 split
 ·rw[List.length_drop];omega
 ·exact Nat.le_refl _
theorem Zxq (h p:List UInt8)(g c:Nat)(hc:2<=c)(hp:p.length<=1000000)(w:World)(hg:Zjc w g):
  CA 232 #[.slice (some ⟨g,0,none⟩) 2 c,.string ⟨h.toArray⟩,.string ⟨p.toArray⟩] w fun e w'=>e=.returned (Zpp p)/\Below w.heap.size w w':=by
 have HF:=Hd (vt_find h p g c hc w hg)
 have HR:=Hd hg
 unfold fitV at HF
 unfold Zpp Zrv
 obtain⟨b0,hb0⟩:∃b,fit0 p=b:=⟨_,rfl⟩
 obtain⟨b1,hb1⟩:∃b,fit1 p=b:=⟨_,rfl⟩
 rw[hb0,hb1]at HF⊢
 clear hg hb0 hb1
 have HQ:=Hd (fun w=>Tryz.strings_TrimPrefix ⟨p.toArray⟩ ⟨#[47]⟩ w)
 have HQ2:=Hd (fun w=>Tryz.strings_TrimPrefix ⟨p.toArray⟩ ⟨#[47,97]⟩ w)
 obtain⟨r0,hr0⟩:∃r,Lib.trimPrefix p [47]=r:=⟨_,rfl⟩
 obtain⟨r1,hr1⟩:∃r,Lib.trimPrefix p [47,97]=r:=⟨_,rfl⟩
 have l0:¬9223372036854775807 < 1+r0.length:=by
  have:=Zt2 p [47]
  rw[hr0]at this
  omega
 have l1:¬9223372036854775807 < 1+r1.length:=by
  have:=Zt2 p [47,97]
  rw[hr1]at this
  omega
 have e3:=Zvc r0
 have e4:=Zvc r1
 simp only[hr0]at HQ⊢
 simp only[hr1]at HQ2⊢
 have HP:=Hd (fun w=>Tryz.strings_HasPrefix ⟨r0.toArray⟩ ⟨#[47]⟩ w)
 have HP2:=Hd (fun w=>Tryz.strings_HasPrefix ⟨r1.toArray⟩ ⟨#[47]⟩ w)
 clear hr0 hr1 hp
 rcases b1 with _ | _
 ·rcases b0 with _ | _
  ·go_enter func232,ntmps232
   go_wp2_with fail
   refine Mo HF ?_
   rintro e w1 ⟨rfl,hb1⟩
   have HB:=Hd hb1
   clear hb1
   go_wp2
   go_ret3
   exact⟨rfl,HB.out⟩
  ·obtain⟨b,hb⟩:=exl (Lib.hasPrefix r0 [47])
   rw[hb]
   rcases b with _ | _
   all_goals
    go_enter func232,ntmps232
    go_wp2_with fail
    refine Mo HF ?_
    rintro e w1 ⟨rfl,hb1⟩
    obtain⟨c0,c1,c2,c3,c4,c5⟩:=HR.out.below hb1
    have hgl:=World.block_lt_of_cell? w1 _ c0
    have HB:=Hd hb1
    clear hb1
    go_wp2_with (first
     | (go_at_call 288;refine(HQ.out _).mono ?_;rintro e w' ⟨rfl,rfl⟩)
     | (go_at_call 98;refine(HP.out _).mono ?_;rintro e w' ⟨rfl,rfl⟩;simp only[hb]))
    go_ret3
    exact⟨rfl,HB.out⟩
 ·obtain⟨b,hb⟩:=exl (Lib.hasPrefix r1 [47])
  rw[hb]
  rcases b with _ | _
  all_goals
   go_enter func232,ntmps232
   go_wp2_with fail
   refine Mo HF ?_
   rintro e w1 ⟨rfl,hb1⟩
   obtain⟨c0,c1,c2,c3,c4,c5⟩:=HR.out.below hb1
   have hgl:=World.block_lt_of_cell? w1 _ c0
   have HB:=Hd hb1
   clear hb1
   go_wp2_with (first
    | (go_at_call 288;refine(HQ2.out _).mono ?_;rintro e w' ⟨rfl,rfl⟩)
    | (go_at_call 98;refine(HP2.out _).mono ?_;rintro e w' ⟨rfl,rfl⟩;simp only[hb]))
   go_ret3
   exact⟨rfl,HB.out⟩
theorem Znh {w:World}{L:List Zae}(n:Nat)(hn:n<=1000)(hP:Pow w)(h:Sep w L):
  CA 66 #[.int .i64 ((n:Nat):Int)] w fun e w'=>∃ad c,e=.returned (.agg #[.int .i64 ((n:Nat):Int),.slice none 0 0,.slice (some ad) (Lib.decDigits n).length c])/\(Lib.decDigits n).length<=c/\Sep w' (Zir ad (Lib.decDigits n)::L):=by
 have h1:=h.newBlk 69 #[.int .i64 0,.slice none 0 0,.slice none 0 0]
 have hP1:Pow (w.alloc (.cells #[.int .i64 0,.slice none 0 0,.slice none 0 0] 69)):=hP.next ((Below.refl _ w).alloc (Nat.le_refl _) _)
 have HI:=Hd (Zgz n (by omega) _ hP1)
 have H1:=Hd h1
 obtain⟨N,hN⟩:∃N:Int,((n:Nat):Int)=N:=⟨_,rfl⟩
 rw[hN]at HI⊢
 obtain⟨l,hl⟩:=exl (Lib.decDigits n)
 rw[hl]at HI⊢
 clear h h1 hP hP1 hn hN hl
 go_enter func66,ntmps66
 go_wp2_with fail
 refine Mo HI ?_
 rintro e w1 ⟨rfl,hb⟩
 obtain⟨c,w2,hc,hlc,hr,hb2,hsz⟩:=Zg8 w1 l
 have h2:=H1.out.below hb
 have h3:Sep w2 (Zir ⟨w1.heap.size,0,none⟩ l::_):=h2.new hb2 ⟨hr,by show w1.heap.size < _;omega⟩ (by rintro k rfl;exact⟨Nat.le_refl _,by show w1.heap.size < _;omega⟩)
 have kR:=h3.at_ (i:=1) rfl
 have H3:=Hd h3
 have HL:=Hd hlc
 clear hb hb2 hr hsz h2 h3 H1 HI hlc
 go_wp2
 have h4:=((H3.out.set_ (i:=1) rfl 0 (.int .i64 N)).set_ (i:=1) rfl 1 (.slice none 0 0)).set_ (i:=1) rfl 2 (.slice (some ⟨w1.heap.size,0,none⟩) l.length c)
 refine bodyPost_ret (Zfq rfl _ _ w.heap.size _ _ _ rfl (h4.blk (i:=1) rfl) underlying69 rfl Zia) rfl ?_
 exact⟨_,c,rfl,HL.out,h4.drop_ 1⟩
theorem Z1q {w:World}{a b:Zae}{L:List Zae}{Y:Nat}{fl bd m p h0 f0 d0:Value}{t:Int}(h:Sep w (a::b::Zaa Y 146 (Zd0 fl bd m p h0 f0 d0 t)::L))(m' p' h' f' d':Value):
  Hid (Sep (((((w.setCell ⟨Y,3,none⟩ m').setCell ⟨Y,4,none⟩ p').setCell ⟨Y,5,none⟩ h').setCell ⟨Y,6,none⟩ f').setCell ⟨Y,7,none⟩ d') (a::b::Zaa Y 146 (Zd0 fl bd m' p' h' f' d' t)::L))/\
  (((((w.setCell ⟨Y,3,none⟩ m').setCell ⟨Y,4,none⟩ p').setCell ⟨Y,5,none⟩ h').setCell ⟨Y,6,none⟩ f').setCell ⟨Y,7,none⟩ d').cell? ⟨Y,0,none⟩=some fl/\
  (((((w.setCell ⟨Y,3,none⟩ m').setCell ⟨Y,4,none⟩ p').setCell ⟨Y,5,none⟩ h').setCell ⟨Y,6,none⟩ f').setCell ⟨Y,7,none⟩ d').cell? ⟨Y,1,none⟩=some bd:=by
 have h3:Sep _ (a::b::Zaa Y 146 (Zd0 fl bd m' p' h' f' d' t)::L):=((((h.set_ (i:=2) rfl 3 m').set_ (i:=2) rfl 4 p').set_ (i:=2) rfl 5 h').set_ (i:=2) rfl 6 f').set_ (i:=2) rfl 7 d'
 have k:=h3.at_ (i:=2) rfl
 exact⟨Hd h3,k.1 0,k.1 1⟩
def Zvm :Value:=.string ⟨#[]⟩
theorem vw_400 {w w0:World}{F:List Zae}{io g kb Li St CM JM Y nf fc n dc:Nat}{FA D:Option Addr}{R log:Value}{id jl:Int}{gl:List (Int×Value)}{fl:List Fld}{b:List UInt8}{Q:World->Prop}(hP:Pow w0)(hio:F[io]? =some (Zel w0))(hgv:Za8 gl id=some (ptr Y))
  (hF:∀w1:World,Zab w1 w1.heap.size 2 FA nf (fvs fl)->Zab w1 w1.heap.size 1 D n (bs b)->CA 12 #[.slice FA nf fc,.slice D n dc] w1 fun e w'=>(∃t u,e=.returned (.tuple #[.agg #[Zvm,Zvm,Zvm,.slice none 0 0,.slice none 0 0],.iface t u]))/\Below w1.heap.size w1 w')
  (h:Sep w (Zaa g 120 (Za7 kb R Li St CM JM jl log)::Zan Zat CM gl::Zaa Y 146 (Zdl (.slice FA nf fc) (.slice D n dc))::Zad 41 2 (.slice FA nf fc) nf (fvs fl)::Zad 5 1 (.slice D n dc) n (bs b)::F))
  (hA:∀w2 ad c,3<=c->Sep w2 (Zir ad [52,48,48]::Zaa g 120 (Za7 kb R Li St CM JM jl log)::Zan Zat CM gl::Zaa Y 146 (Zd0 (.slice FA nf fc) (.slice D n dc) Zvm Zvm Zvm (.slice none 0 0) (.slice none 0 0) 0)::F)->CA 68 #[.pointer (some ⟨g,0,none⟩),.int .i64 id,.agg #[.int .i64 400,.slice none 0 0,.slice (some ad) 3 c]] w2 fun e w'=>e=.returned (.tuple #[])/\Q w'):
  CA 167 #[.pointer (some ⟨g,0,none⟩),.int .i64 id] w fun e w'=>e=.returned (.tuple #[])/\Q w':=by
 have kG:=h.at_ (i:=0) rfl
 have kY:=h.at_ (i:=2) rfl
 have ql:(Instr.lookup 116 (.map (some CM)) (.int .i64 id) false).run prog w=.ok (.pointer (some ⟨Y,0,none⟩)) w:=h.lookV (P:=prog) Zja (i:=1) rfl underlying116 underlying3 hgv false
 have n1:=h.ne_ (i:=0) (i':=2) rfl rfl (by decide)
 have n2:=Ne.symm n1
 have H:=Hd h
 have HA:=Hd hA
 have HFA:=Hd hF
 have HPO:=Hd (And.intro hP hio)
 unfold Za7 at kG
 unfold Zdl Zd0 at kY
 clear h hA hF hP hio hgv
 go_enter func167,ntmps167
 go_wp2_with fail
 obtain⟨w1,hw1⟩:=exl (w.setCell ⟨Y,8,none⟩ (.int .i64 0))
 have h1:=H.out.set_ (i:=2) rfl 8 (.int .i64 0)
 rw[hw1]at h1⊢
 change Sep w1 (_::_::Zaa Y _ (Zdl (.slice FA nf fc) (.slice D n dc))::_)at h1
 clear kG kY ql n1 n2 H hw1
 have kG:=h1.at_ (i:=0) rfl
 have kY:=h1.at_ (i:=2) rfl
 have HF:=Hd (HFA.out _ (Zab.of_own (h1.drew.row (i:=3) rfl)) (Zag h1.drew (i:=4) rfl))
 have H1:=Hd h1.drew
 unfold Za7 at kG
 unfold Zdl Zd0 at kY
 clear h1 HFA
 go_wp2_with fail
 have f0:w1.cell? ⟨Y,0,none⟩=some (.slice FA nf fc):=kY.1 0
 have f1:w1.cell? ⟨Y,1,none⟩=some (.slice D n dc):=kY.1 1
 go_region_held3 (fun w'=>w'.cell? ⟨Y,0,none⟩=some (.slice FA nf fc)/\w'.cell? ⟨Y,1,none⟩=some (.slice D n dc)) (first | (with_reducible exact⟨f0,f1⟩) | (with_reducible exact⟨g0,g1⟩) | (with_reducible exact⟨k0,k1⟩) | go_keep)
  (first | (go_at_call 12;refine HF.out.mono ?_;rintro e w2 ⟨⟨t,u,rfl⟩,hb2⟩;have h2:=H1.out.below hb2;have kY2:=h2.at_ (i:=2) rfl;have g0:w2.cell? ⟨Y,0,none⟩=some (.slice FA nf fc):=kY2.1 0;have g1:w2.cell? ⟨Y,1,none⟩=some (.slice D n dc):=kY2.1 1;obtain⟨H3,k0,k1⟩:=Z1q h2 Zvm Zvm Zvm (.slice none 0 0) (.slice none 0 0);unfold Zdl Zd0 at kY2;unfold Zvm at H3 k0 k1⊢;clear h2 hb2))
 obtain⟨w3,hw3⟩:=exl ((((((w2.setCell ⟨Y,3,none⟩ (.string ⟨#[]⟩)).setCell ⟨Y,4,none⟩ (.string ⟨#[]⟩)).setCell ⟨Y,5,none⟩ (.string ⟨#[]⟩)).setCell ⟨Y,6,none⟩ (.slice none 0 0)).setCell ⟨Y,7,none⟩ (.slice none 0 0)))
 have h3:=H3.out
 rw[hw3]at h3⊢
 clear kG kY f0 f1 g0 g1 k0 k1 kY2 HF H1 H3 hw3
 have kY:=h3.at_ (i:=2) rfl
 have HPL:=Hd (Znh 400 (by decide) (HPO.out.1.next (h3.old (i:=io+5) HPO.out.2)) h3)
 have hd:Lib.decDigits 400=[52,48,48]:=by kernel_rfl
 rw[hd]at HPL
 clear h3 hd
 go_wp2_with fail
 refine(show CA 66 #[.int .i64 400] w3 _ from HPL.out).mono ?_
 rintro e w4 ⟨ad,c,rfl,hc,h4⟩
 have h5:=Sep.ordN h4 6 [0,1,2,3] rfl (by decide)
 simp only[Zbo,Zbd,Zam]at h5
 have HAA:=Hd (HA.out w4 ad c hc h5)
 clear h4 h5 hc HPL HA kY
 go_wp2_with fail
 refine(show CA 68 #[.pointer (some ⟨g,0,none⟩),.int .i64 id,.agg #[.int .i64 400,.slice none 0 0,.slice (some ad) 3 c]] w4 _ from HAA.out).mono ?_
 rintro e w5 ⟨rfl,hq⟩
 have HQ:=Hd hq
 clear hq HAA
 go_wp2
 refine bodyPost_ret (results_none rfl _ _ _) rfl ?_
 exact⟨rfl,HQ.out⟩
def Zvp (lo:Nat)(W:World):Zae:=⟨fun k=>lo<=k/\k < W.heap.size,fun w=>∀k,lo<=k->k < W.heap.size->w.heap[k]? =W.heap[k]?,fun _ _ _ hk hS hl h k h1 h2=>(hk.block k (hl k ⟨h1,h2⟩) (hS k ⟨h1,h2⟩)).trans (h k h1 h2)⟩
theorem Sep.newSnap {w w':World}{L:List Zae}(h:Sep w L)(hb:Below w.heap.size w w'):Sep w' (Zvp w.heap.size w'::L):=
 h.new hb (fun _ _ _=>rfl) (fun _ hk=>hk)
theorem Zuj {w W:World}{L:List Zae}{i lo n size c:Nat}{e:TypeId}{A:Option Addr}{xs:List Value}(h:Sep w L)(hi:L[i]? =some (Zvp lo W))(ho:W.ownsRow lo e size (.slice A n c) n xs):Zab w w.heap.size size A n xs:=by
 have hs:∀k,lo<=k->k < W.heap.size->w.heap[k]? =W.heap[k]? :=h.get hi
 refine Zab.of_own (base:=lo) (e:=e) (c:=c) ?_
 obtain⟨h1,h2⟩:=ho
 rcases h2 with h3 | ⟨g,cap,cur,hv,hlo,hg,hr⟩
 ·exact⟨h1,.inl h3⟩
 ·exact⟨h1,.inr ⟨g,cap,cur,hv,hlo,(hs g hlo (Blk.lt (t:=e) (cs:=cur) hg)).trans hg,hr⟩⟩
theorem Zgd {w W:World}{L:List Zae}{i lo:Nat}(h:Sep w L)(hi:L[i]? =some (Zvp lo W)){p:Addr}{v:Value}(h1:lo<=p.block)(hv:W.cell? p=some v):w.cell? p=some v:=
 (World.cell?_of_block ((show∀k,lo<=k->k < W.heap.size->w.heap[k]? =W.heap[k]? from h.get hi) p.block h1 (World.block_lt_of_cell? W p hv))).trans hv
theorem Zvo {w W:World}{L:List Zae}{i lo size n:Nat}{A:Option Addr}{xs:List Value}(h:Sep w L)(hi:L[i]? =some (Zvp lo W))(hr:Zab W W.heap.size size A n xs)(hA:∀ad,A=some ad->lo<=ad.block):Zab w w.heap.size size A n xs:=
 ⟨hr.1,fun hn=>by
  obtain⟨ad,e,hb,hc⟩:=hr.2 hn
  have h1:=hA ad e
  exact⟨ad,e,h.lt hi (k:=ad.block) ⟨h1,hb⟩,fun j u hu=>Zgd h hi (by rw[Zbk];exact h1) (hc j u hu)⟩⟩
def Zjv :List Value:=[.string ⟨#[]⟩,.string ⟨#[47]⟩,.string ⟨#[97,108,108]⟩,.string ⟨#[]⟩,.string ⟨#[47,97]⟩,.string ⟨#[111,110,101]⟩]
theorem Znw {w:World}{L:List Zae}{i c:Nat}{A:Option Addr}(h:Sep w L)(hi:L[i]? =some (Zad 47 3 (.slice A 2 c) 2 Zjv)):∃g,A=some ⟨g,0,none⟩/\Zjc w g/\2<=c:=by
 obtain⟨h1,h2⟩:=h.row hi
 rcases h2 with⟨h3,h4⟩ | ⟨g,cap,cur,hv,_,hg,hc,_,hcs,ht⟩
 ·cases h4
 ·cases hv
  have hcell:∀j u,Zjv[j]? =some u->w.cell? ⟨g,j,none⟩=some u:=by
   intro j u hj
   rw[Blk.cell (t:=47) (cs:=cur) hg j]
   rw[<-ht,List.getElem?_take]at hj
   split at hj
   ·simpa using hj
   ·cases hj
  exact⟨g,rfl,⟨hcell 0 _ rfl,hcell 1 _ rfl,hcell 2 _ rfl,hcell 3 _ rfl,hcell 4 _ rfl,hcell 5 _ rfl⟩,hc⟩
theorem Zua {w:World}{L:List Zae}{i c g:Nat}(h:Sep w L)(hi:L[i]? =some (Zad 47 3 (.slice (some ⟨g,0,none⟩) 2 c) 2 Zjv)):Zjc w g:=by
 obtain⟨g',e,h1,-⟩:=Znw h hi
 cases e
 exact h1
theorem vw_429 {w w0:World}{F:List Zae}{io g kb Li LM LM' St CM JM Y nf fc n dc qn:Nat}{FA D:Option Addr}{R log:Value}{id jl:Int}{gl:List (Int×Value)}{fl qs:List Fld}{m p hh b:List UInt8}{f:List UInt8->Option Nat}{sl ll:List (List UInt8×Value)}{bl:List (Nat×Nat)}{Q:World->Prop}(hP:Pow w0)(hio:F[io]? =some (Zel w0))(hgv:Za8 gl id=some (ptr Y))
  (hO:Zj0 f sl ll bl) (hll:ll.length<=8) (hno:decide (1<=(f hh).getD 5)=false)
  (hF:∀w1:World,Zab w1 w1.heap.size 2 FA nf (fvs fl)->Zab w1 w1.heap.size 1 D n (bs b)->CA 12 #[.slice FA nf fc,.slice D n dc] w1 fun e w'=>(∃fa fc2 ba bc2,e=.returned (.tuple #[.agg (Zcf m p hh fa qn fc2 ba n bc2),.nilIface])/\w'.ownsRow w1.heap.size 41 2 (.slice fa qn fc2) qn (fvs qs)/\w'.ownsRow w1.heap.size 5 1 (.slice ba n bc2) n (bs b))/\Below w1.heap.size w1 w')
  (h:Sep w (Zaa g 120 (Za7 kb R Li St CM JM jl log)::Zan Zat CM gl::Zaa Y 146 (Zdl (.slice FA nf fc) (.slice D n dc))::Zad 41 2 (.slice FA nf fc) nf (fvs fl)::Zad 5 1 (.slice D n dc) n (bs b)::
   Zaa Li 193 #[.int .i64 5,.int .i64 5,.map (some LM),.map (some LM')]::Zan Zed LM' sl::Zan Zed LM ll::Zo5 bl::F))
  (hA:∀w2 ad c fa fc2 ba bc2 sl' ll' bl',3<=c->Zj0 (limS f hh) sl' ll' bl'->ll'.length<=ll.length+1->Sep w2 (Zir ad [52,50,57]::Zaa g 120 (Za7 kb R Li St CM JM jl log)::Zan Zat CM gl::Zaa Y 146 (Zd0 (.slice FA nf fc) (.slice D n dc) (.string ⟨m.toArray⟩) (.string ⟨p.toArray⟩) (.string ⟨hh.toArray⟩) (.slice fa qn fc2) (.slice ba n bc2) 0)::
   Zaa Li 193 #[.int .i64 5,.int .i64 5,.map (some LM),.map (some LM')]::Zan Zed LM' sl'::Zan Zed LM ll'::Zo5 bl'::F)->CA 68 #[.pointer (some ⟨g,0,none⟩),.int .i64 id,.agg #[.int .i64 429,.slice none 0 0,.slice (some ad) 3 c]] w2 fun e w'=>e=.returned (.tuple #[])/\Q w'):
  CA 167 #[.pointer (some ⟨g,0,none⟩),.int .i64 id] w fun e w'=>e=.returned (.tuple #[])/\Q w':=by
 have kG:=h.at_ (i:=0) rfl
 have kY:=h.at_ (i:=2) rfl
 have ql:(Instr.lookup 116 (.map (some CM)) (.int .i64 id) false).run prog w=.ok (.pointer (some ⟨Y,0,none⟩)) w:=h.lookV (P:=prog) Zja (i:=1) rfl underlying116 underlying3 hgv false
 have n1:=h.ne_ (i:=0) (i':=2) rfl rfl (by decide)
 have n2:=Ne.symm n1
 have H:=Hd h
 have HA:=Hd hA
 have HFA:=Hd hF
 have HPO:=Hd (And.intro hP hio)
 have HLI:=Hd (fun(w3:World) F3 h3=>Zxu (w:=w3) (F:=F3) (Li:=Li) (LM:=LM) (LM':=LM') hh hO hll h3)
 rw[hno]at HLI
 unfold Za7 at kG
 unfold Zdl Zd0 at kY
 clear h hA hF hP hio hgv hO hll hno
 go_enter func167,ntmps167
 go_wp2_with fail
 obtain⟨w1,hw1⟩:=exl (w.setCell ⟨Y,8,none⟩ (.int .i64 0))
 have h1:=H.out.set_ (i:=2) rfl 8 (.int .i64 0)
 rw[hw1]at h1⊢
 change Sep w1 (_::_::Zaa Y _ (Zdl (.slice FA nf fc) (.slice D n dc))::_)at h1
 clear kG kY ql n1 n2 H hw1
 have kG:=h1.at_ (i:=0) rfl
 have kY:=h1.at_ (i:=2) rfl
 have HF:=Hd (HFA.out _ (Zab.of_own (h1.drew.row (i:=3) rfl)) (Zag h1.drew (i:=4) rfl))
 have H1:=Hd h1.drew
 unfold Za7 at kG
 unfold Zdl Zd0 at kY
 clear h1 HFA
 go_wp2_with fail
 have f0:w1.cell? ⟨Y,0,none⟩=some (.slice FA nf fc):=kY.1 0
 have f1:w1.cell? ⟨Y,1,none⟩=some (.slice D n dc):=kY.1 1
 go_region_held3 (fun w'=>w'.cell? ⟨Y,0,none⟩=some (.slice FA nf fc)/\w'.cell? ⟨Y,1,none⟩=some (.slice D n dc)) (first | (with_reducible exact⟨f0,f1⟩) | (with_reducible exact⟨g0,g1⟩) | (with_reducible exact⟨k0,k1⟩) | go_keep)
  (first | (go_at_call 12;refine HF.out.mono ?_;rintro e w2 ⟨⟨fa,fc2,ba,bc2,rfl,ho1,ho2⟩,hb2⟩;have HO1:=Hd ho1;have HO2:=Hd ho2;have h2:=H1.out.newSnap hb2;have kY2:=h2.at_ (i:=3) rfl;have g0:w2.cell? ⟨Y,0,none⟩=some (.slice FA nf fc):=kY2.1 0;have g1:w2.cell? ⟨Y,1,none⟩=some (.slice D n dc):=kY2.1 1;obtain⟨H3,k0,k1⟩:=Zkd h2 (.string ⟨m.toArray⟩) (.string ⟨p.toArray⟩) (.string ⟨hh.toArray⟩) (.slice fa qn fc2) (.slice ba n bc2);unfold Zdl Zd0 at kY2;clear h2 hb2 ho1 ho2))
 obtain⟨w3,hw3⟩:=exl ((((((w2.setCell ⟨Y,3,none⟩ (.string ⟨m.toArray⟩)).setCell ⟨Y,4,none⟩ (.string ⟨p.toArray⟩)).setCell ⟨Y,5,none⟩ (.string ⟨hh.toArray⟩)).setCell ⟨Y,6,none⟩ (.slice fa qn fc2)).setCell ⟨Y,7,none⟩ (.slice ba n bc2)))
 have h3:=H3.out
 rw[hw3]at h3⊢
 clear kG kY f0 f1 g0 g1 k0 k1 kY2 HF H1 H3 hw3
 have kG:=h3.at_ (i:=1) rfl
 have kY:=h3.at_ (i:=3) rfl
 have h4:=Sep.ordN h3.drew 10 [6,7,8,9,0,1,2,3,4,5] rfl (by decide)
 simp only[Zbo,Zbd,Zam]at h4
 have H3:=Hd h4
 have p0:w3.cell? ⟨g,2,none⟩=some (.pointer (some ⟨Li,0,none⟩)):=kG.1 2
 have p1:w3.cell? ⟨Y,5,none⟩=some (.string ⟨hh.toArray⟩):=kY.1 5
 have p2:w3.cell? ⟨g,7,none⟩=some (.int .i64 0):=kG.1 7
 have pl:=kG.2.2
 have pl2:=kY.2.2
 clear kG kY h3 h4
 go_wp2
 go_region_held3 (fun w'=>w'.cell? ⟨g,2,none⟩=some (.pointer (some ⟨Li,0,none⟩))/\w'.cell? ⟨Y,5,none⟩=some (.string ⟨hh.toArray⟩)/\w'.cell? ⟨g,7,none⟩=some (.int .i64 0)) (first | (with_reducible exact⟨p0,p1,p2⟩) | (with_reducible exact⟨s0,s1,s2⟩) | go_keep)
  (first | (go_at_call 231;refine(HLI.out _ _ H3.out).mono ?_;rintro e w4 ⟨rfl,sl',ll',bl',hO4,hl4,h4⟩;have HO4:=Hd (And.intro hO4 hl4);have kG4:=h4.at_ (i:=5) rfl;have kY4:=h4.at_ (i:=7) rfl;have s0:w4.cell? ⟨g,2,none⟩=some (.pointer (some ⟨Li,0,none⟩)):=kG4.1 2;have s1:w4.cell? ⟨Y,5,none⟩=some (.string ⟨hh.toArray⟩):=kY4.1 5;have s2:w4.cell? ⟨g,7,none⟩=some (.int .i64 0):=kG4.1 7;have H4:=Hd h4;clear h4 kG4 kY4 hO4 hl4))
 clear p0 p1 p2 pl pl2 s0 s1 s2 HLI HO1 HO2 H3
 have HPL:=Hd (Znh 429 (by decide) (HPO.out.1.next (H4.out.old (i:=io+10) HPO.out.2)) H4.out)
 have hd:Lib.decDigits 429=[52,50,57]:=by kernel_rfl
 rw[hd]at HPL
 clear hd
 go_wp2_with fail
 refine(show CA 66 #[.int .i64 429] w4 _ from HPL.out).mono ?_
 rintro e w5 ⟨ad,c,rfl,hc,h5⟩
 have h6:=Sep.ordN h5 11 [0,6,7,8,1,2,3,4] rfl (by decide)
 simp only[Zbo,Zbd,Zam]at h6
 have HAA:=Hd (HA.out w5 ad c fa fc2 ba bc2 sl' ll' bl' hc HO4.out.1 HO4.out.2 h6)
 clear h5 h6 hc HPL HA H4
 go_wp2_with fail
 refine(show CA 68 #[.pointer (some ⟨g,0,none⟩),.int .i64 id,.agg #[.int .i64 429,.slice none 0 0,.slice (some ad) 3 c]] w5 _ from HAA.out).mono ?_
 rintro e w6 ⟨rfl,hq⟩
 have HQ:=Hd hq
 clear hq HAA
 go_wp2
 refine bodyPost_ret (results_none rfl _ _ _) rfl ?_
 exact⟨rfl,HQ.out⟩
theorem vw_404 {w w0:World}{F:List Zae}{io ir rg rc g kb Li LM LM' St CM JM Y nf fc n dc qn:Nat}{FA D:Option Addr}{log:Value}{id jl:Int}{gl:List (Int×Value)}{fl qs:List Fld}{m p hh b:List UInt8}{f:List UInt8->Option Nat}{sl ll:List (List UInt8×Value)}{bl:List (Nat×Nat)}{Q:World->Prop}(hP:Pow w0)(hio:F[io]? =some (Zel w0))(hgv:Za8 gl id=some (ptr Y))
  (hO:Zj0 f sl ll bl) (hll:ll.length<=8) (hno:decide (1<=(f hh).getD 5)=true) (hir:F[ir]? =some (Zad 47 3 (.slice (some ⟨rg,0,none⟩) 2 rc) 2 Zjv)) (hpl:p.length<=1000000) (hrest:Zpp p=.tuple #[.string ⟨#[]⟩,.string ⟨#[]⟩,.iface 95 (.int .i64 5)])
  (hF:∀w1:World,Zab w1 w1.heap.size 2 FA nf (fvs fl)->Zab w1 w1.heap.size 1 D n (bs b)->CA 12 #[.slice FA nf fc,.slice D n dc] w1 fun e w'=>(∃fa fc2 ba bc2,e=.returned (.tuple #[.agg (Zcf m p hh fa qn fc2 ba n bc2),.nilIface])/\w'.ownsRow w1.heap.size 41 2 (.slice fa qn fc2) qn (fvs qs)/\w'.ownsRow w1.heap.size 5 1 (.slice ba n bc2) n (bs b))/\Below w1.heap.size w1 w')
  (h:Sep w (Zaa g 120 (Za7 kb (.slice (some ⟨rg,0,none⟩) 2 rc) Li St CM JM jl log)::Zan Zat CM gl::Zaa Y 146 (Zdl (.slice FA nf fc) (.slice D n dc))::Zad 41 2 (.slice FA nf fc) nf (fvs fl)::Zad 5 1 (.slice D n dc) n (bs b)::
   Zaa Li 193 #[.int .i64 5,.int .i64 5,.map (some LM),.map (some LM')]::Zan Zed LM' sl::Zan Zed LM ll::Zo5 bl::F))
  (hA:∀w2 ad c fa fc2 ba bc2 sl' ll' bl',3<=c->Zj0 (limS f hh) sl' ll' bl'->ll'.length<=ll.length+1->Sep w2 (Zir ad [52,48,52]::Zaa g 120 (Za7 kb (.slice (some ⟨rg,0,none⟩) 2 rc) Li St CM JM jl log)::Zan Zat CM gl::Zaa Y 146 (Zd0 (.slice FA nf fc) (.slice D n dc) (.string ⟨m.toArray⟩) (.string ⟨p.toArray⟩) (.string ⟨hh.toArray⟩) (.slice fa qn fc2) (.slice ba n bc2) 0)::
   Zaa Li 193 #[.int .i64 5,.int .i64 5,.map (some LM),.map (some LM')]::Zan Zed LM' sl'::Zan Zed LM ll'::Zo5 bl'::F)->CA 68 #[.pointer (some ⟨g,0,none⟩),.int .i64 id,.agg #[.int .i64 404,.slice none 0 0,.slice (some ad) 3 c]] w2 fun e w'=>e=.returned (.tuple #[])/\Q w'):
  CA 167 #[.pointer (some ⟨g,0,none⟩),.int .i64 id] w fun e w'=>e=.returned (.tuple #[])/\Q w':=by
 have kG:=h.at_ (i:=0) rfl
 have kY:=h.at_ (i:=2) rfl
 have ql:(Instr.lookup 116 (.map (some CM)) (.int .i64 id) false).run prog w=.ok (.pointer (some ⟨Y,0,none⟩)) w:=h.lookV (P:=prog) Zja (i:=1) rfl underlying116 underlying3 hgv false
 have n1:=h.ne_ (i:=0) (i':=2) rfl rfl (by decide)
 have n2:=Ne.symm n1
 have H:=Hd h
 have HA:=Hd hA
 have HFA:=Hd hF
 have HPO:=Hd (And.intro hP hio)
 have HLI:=Hd (fun(w3:World) F3 h3=>Zxu (w:=w3) (F:=F3) (Li:=Li) (LM:=LM) (LM':=LM') hh hO hll h3)
 rw[hno]at HLI
 have HRO:=Hd (And.intro hir (And.intro hpl hrest))
 unfold Za7 at kG
 unfold Zdl Zd0 at kY
 clear h hA hF hP hio hgv hO hll hno hir hpl hrest
 go_enter func167,ntmps167
 go_wp2_with fail
 obtain⟨w1,hw1⟩:=exl (w.setCell ⟨Y,8,none⟩ (.int .i64 0))
 have h1:=H.out.set_ (i:=2) rfl 8 (.int .i64 0)
 rw[hw1]at h1⊢
 change Sep w1 (_::_::Zaa Y _ (Zdl (.slice FA nf fc) (.slice D n dc))::_)at h1
 clear kG kY ql n1 n2 H hw1
 have kG:=h1.at_ (i:=0) rfl
 have kY:=h1.at_ (i:=2) rfl
 have HF:=Hd (HFA.out _ (Zab.of_own (h1.drew.row (i:=3) rfl)) (Zag h1.drew (i:=4) rfl))
 have H1:=Hd h1.drew
 unfold Za7 at kG
 unfold Zdl Zd0 at kY
 clear h1 HFA
 go_wp2_with fail
 have f0:w1.cell? ⟨Y,0,none⟩=some (.slice FA nf fc):=kY.1 0
 have f1:w1.cell? ⟨Y,1,none⟩=some (.slice D n dc):=kY.1 1
 go_region_held3 (fun w'=>w'.cell? ⟨Y,0,none⟩=some (.slice FA nf fc)/\w'.cell? ⟨Y,1,none⟩=some (.slice D n dc)) (first | (with_reducible exact⟨f0,f1⟩) | (with_reducible exact⟨g0,g1⟩) | (with_reducible exact⟨k0,k1⟩) | go_keep)
  (first | (go_at_call 12;refine HF.out.mono ?_;rintro e w2 ⟨⟨fa,fc2,ba,bc2,rfl,ho1,ho2⟩,hb2⟩;have HO1:=Hd ho1;have HO2:=Hd ho2;have h2:=H1.out.newSnap hb2;have kY2:=h2.at_ (i:=3) rfl;have g0:w2.cell? ⟨Y,0,none⟩=some (.slice FA nf fc):=kY2.1 0;have g1:w2.cell? ⟨Y,1,none⟩=some (.slice D n dc):=kY2.1 1;obtain⟨H3,k0,k1⟩:=Zkd h2 (.string ⟨m.toArray⟩) (.string ⟨p.toArray⟩) (.string ⟨hh.toArray⟩) (.slice fa qn fc2) (.slice ba n bc2);unfold Zdl Zd0 at kY2;clear h2 hb2 ho1 ho2))
 obtain⟨w3,hw3⟩:=exl ((((((w2.setCell ⟨Y,3,none⟩ (.string ⟨m.toArray⟩)).setCell ⟨Y,4,none⟩ (.string ⟨p.toArray⟩)).setCell ⟨Y,5,none⟩ (.string ⟨hh.toArray⟩)).setCell ⟨Y,6,none⟩ (.slice fa qn fc2)).setCell ⟨Y,7,none⟩ (.slice ba n bc2)))
 have h3:=H3.out
 rw[hw3]at h3⊢
 clear kG kY f0 f1 g0 g1 k0 k1 kY2 HF H1 H3 hw3
 have kG:=h3.at_ (i:=1) rfl
 have kY:=h3.at_ (i:=3) rfl
 have h4:=Sep.ordN h3.drew 10 [6,7,8,9,0,1,2,3,4,5] rfl (by decide)
 simp only[Zbo,Zbd,Zam]at h4
 have H3:=Hd h4
 have p0:w3.cell? ⟨g,2,none⟩=some (.pointer (some ⟨Li,0,none⟩)):=kG.1 2
 have p1:w3.cell? ⟨Y,5,none⟩=some (.string ⟨hh.toArray⟩):=kY.1 5
 have p2:w3.cell? ⟨g,7,none⟩=some (.int .i64 0):=kG.1 7
 have pl:=kG.2.2
 have pl2:=kY.2.2
 clear kG kY h3 h4
 go_wp2
 go_region_held3 (fun w'=>w'.cell? ⟨g,2,none⟩=some (.pointer (some ⟨Li,0,none⟩))/\w'.cell? ⟨Y,5,none⟩=some (.string ⟨hh.toArray⟩)/\w'.cell? ⟨g,7,none⟩=some (.int .i64 0)) (first | (with_reducible exact⟨p0,p1,p2⟩) | (with_reducible exact⟨s0,s1,s2⟩) | go_keep)
  (first | (go_at_call 231;refine(HLI.out _ _ H3.out).mono ?_;rintro e w4 ⟨rfl,sl',ll',bl',hO4,hl4,h4⟩;have HO4:=Hd (And.intro hO4 hl4);have kG4:=h4.at_ (i:=5) rfl;have kY4:=h4.at_ (i:=7) rfl;have s0:w4.cell? ⟨g,2,none⟩=some (.pointer (some ⟨Li,0,none⟩)):=kG4.1 2;have s1:w4.cell? ⟨Y,5,none⟩=some (.string ⟨hh.toArray⟩):=kY4.1 5;have s2:w4.cell? ⟨g,7,none⟩=some (.int .i64 0):=kG4.1 7;have s3:w4.cell? ⟨g,1,none⟩=some (.slice (some ⟨rg,0,none⟩) 2 rc):=kG4.1 1;have s4:w4.cell? ⟨Y,4,none⟩=some (.string ⟨p.toArray⟩):=kY4.1 4;have l4:=kG4.2.2;have l5:=kY4.2.2;have HT:=Hd (Zua h4.drew (i:=ir+10) HRO.out.1);have HC4:2<=rc:=(Exists.elim (Znw h4 (i:=ir+10) HRO.out.1) fun _ x=>x.2.2);have H4:=Hd h4.drew;clear h4 kG4 kY4 hO4 hl4))
 clear p0 p1 p2 pl pl2 s0 s2 HLI HO1 HO2 H3
 have HRS:=Hd (Zxq hh p rg rc HC4 HRO.out.2.1 _ HT.out)
 rw[HRO.out.2.2]at HRS
 go_wp2
 go_region_held3 (fun w'=>w'.cell? ⟨g,1,none⟩=some (.slice (some ⟨rg,0,none⟩) 2 rc)/\w'.cell? ⟨Y,5,none⟩=some (.string ⟨hh.toArray⟩)/\w'.cell? ⟨Y,4,none⟩=some (.string ⟨p.toArray⟩)) (first | (with_reducible exact⟨s3,s1,s4⟩) | (with_reducible exact⟨t3,t1,t4⟩) | go_keep)
  (first | (go_at_call 232;refine HRS.out.mono ?_;rintro e w5 ⟨rfl,hb5⟩;have h5:=H4.out.below hb5;have kG5:=h5.at_ (i:=5) rfl;have kY5:=h5.at_ (i:=7) rfl;have t3:w5.cell? ⟨g,1,none⟩=some (.slice (some ⟨rg,0,none⟩) 2 rc):=kG5.1 1;have t1:w5.cell? ⟨Y,5,none⟩=some (.string ⟨hh.toArray⟩):=kY5.1 5;have t4:w5.cell? ⟨Y,4,none⟩=some (.string ⟨p.toArray⟩):=kY5.1 4;have H5:=Hd h5;clear h5 kG5 kY5 hb5))
 clear s1 s3 s4 l4 l5 t1 t3 t4 HT H4 HRS
 have HPL:=Hd (Znh 404 (by decide) (HPO.out.1.next (H5.out.old (i:=io+10) HPO.out.2)) H5.out)
 have hd:Lib.decDigits 404=[52,48,52]:=by kernel_rfl
 rw[hd]at HPL
 clear hd
 go_wp2_with fail
 refine(show CA 66 #[.int .i64 404] w5 _ from HPL.out).mono ?_
 rintro e w6 ⟨ad,c,rfl,hc,h7⟩
 have h6:=Sep.ordN h7 11 [0,6,7,8,1,2,3,4] rfl (by decide)
 simp only[Zbo,Zbd,Zam]at h6
 have HAA:=Hd (HA.out w6 ad c fa fc2 ba bc2 sl' ll' bl' hc HO4.out.1 HO4.out.2 h6)
 clear h7 h6 hc HPL HA H5
 go_wp2_with fail
 refine(show CA 68 #[.pointer (some ⟨g,0,none⟩),.int .i64 id,.agg #[.int .i64 404,.slice none 0 0,.slice (some ad) 3 c]] w6 _ from HAA.out).mono ?_
 rintro e w7 ⟨rfl,hq⟩
 have HQ:=Hd hq
 clear hq HAA
 go_wp2
 refine bodyPost_ret (results_none rfl _ _ _) rfl ?_
 exact⟨rfl,HQ.out⟩
end
end Go.Proofs.YtbgnggkgmeagkaaGreatDoor
