/-
  A part of the proof of TopAlike: each theorem states its own conditions.
-/
import Derived.Test.YtbgnggkgmeagkaaGreatDoorMTopAlike17
import Derived.Test.YtbgnggkgmeagkaaGreatDoorMTopAlike10
import Derived.LoopN
set_option linter.unusedSimpArgs false
set_option linter.unusedVariables false
set_option maxRecDepth 100000
set_option maxHeartbeats 16000000
namespace Go.Proofs.YtbgnggkgmeagkaaGreatDoor
open Go.Proofs.Tryz
section
open Go.RowKit
def restOk (rest:List Fld):Prop:=∀f∈rest,(∀y,f.1.head? =some y->y≠58)/\f.1≠Zzz/\f.1≠Zdf/\f.1.length<=1000000
abbrev zReq :Array Value:= #[.string ⟨#[]⟩,.string ⟨#[]⟩,.string ⟨#[]⟩,.slice none 0 0,.slice none 0 0]
def acK (rest:List Fld)(k:Nat):Acc:=Zke ⟨[],none⟩ (rest.take k)
theorem acK_succ (rest:List Fld){k:Nat}(h:k < rest.length):acK rest (k+1)=Zl2 (acK rest k) rest[k]:=Z1y _ rest h
theorem acK_all (rest:List Fld):acK rest rest.length=Zke ⟨[],none⟩ rest:=by unfold acK;rw[List.take_length]
theorem tot_take (l:List Fld)(k:Nat):tot (l.take k)<=tot l:=by
 have h:=Ziz (l.take k) (l.drop k)
 rw[List.take_append_drop]at h
 omega
theorem acK_ok (rest:List Fld)(k:Nat):ckOk (acK rest k)/\tot (acK rest k).l<=tot rest/\(acK rest k).l.length<=k:=by
 refine⟨Zq1 _ _ (fun i h=>by cases h),?_,?_⟩
 ·have h1:=Zt4 (rest.take k) ⟨[],none⟩
  have h2:=tot_take rest k
  have h3:tot ([]:List Fld)=0:=rfl
  unfold acK
  simp only[h3]at h1
  omega
 ·have h1:=Zvf (rest.take k) ⟨[],none⟩
  have h2:(rest.take k).length<=k:=List.length_take_le _ _
  unfold acK
  simp only[List.length_nil]at h1
  omega
theorem set5z {w:World}{g:Nat}(h:Blk w g 25 zReq){B:Nat}{w0:World}(hb:Below B w0 w)(hg:B<=g):Blk (((((w.setCell ⟨g,0,none⟩ (.string ⟨#[]⟩)).setCell ⟨g,1,none⟩ (.string ⟨#[]⟩)).setCell ⟨g,2,none⟩ (.string ⟨#[]⟩)).setCell ⟨g,3,none⟩ (.slice none 0 0)).setCell ⟨g,4,none⟩ (.slice none 0 0)) g 25 zReq/\
  Below B w0 (((((w.setCell ⟨g,0,none⟩ (.string ⟨#[]⟩)).setCell ⟨g,1,none⟩ (.string ⟨#[]⟩)).setCell ⟨g,2,none⟩ (.string ⟨#[]⟩)).setCell ⟨g,3,none⟩ (.slice none 0 0)).setCell ⟨g,4,none⟩ (.slice none 0 0)):=
 ⟨Zls h,((((hb.setCell (p:=⟨g,0,none⟩) hg _).setCell (p:=⟨g,1,none⟩) hg _).setCell (p:=⟨g,2,none⟩) hg _).setCell (p:=⟨g,3,none⟩) hg _).setCell (p:=⟨g,4,none⟩) hg _⟩
theorem Zfe {w:World}{base size n g:Nat}{e:TypeId}{v:Value}{xs:List Value}(ho:w.ownsRow base e size v n xs)(hne:v.ownBlock≠some g)(i:Nat)(u:Value):(w.setCell ⟨g,i,none⟩ u).ownsRow base e size v n xs:=
 ho.kept (row:=some g) ⟨rfl,rfl,rfl,by simp[World.setCell],fun k _ hk=>Below.heap_setCell _ _ _ _ (fun e=>hk (by simp[e]))⟩ (.inr hne)
theorem Zuk {w:World}{base size n g:Nat}{e:TypeId}{v:Value}{xs:List Value}(ho:w.ownsRow base e size v n xs)(hne:v.ownBlock≠some g)(a0 a1 a2 a3 a4:Value):(((((w.setCell ⟨g,0,none⟩ a0).setCell ⟨g,1,none⟩ a1).setCell ⟨g,2,none⟩ a2).setCell ⟨g,3,none⟩ a3).setCell ⟨g,4,none⟩ a4).ownsRow base e size v n xs:=by
 have h0:=Zfe ho hne 0 a0
 have h1:=Zfe h0 hne 1 a1
 have h2:=Zfe h1 hne 2 a2
 have h3:=Zfe h2 hne 3 a3
 exact Zfe h3 hne 4 a4
theorem blk_set5 {w:World}{g:Nat}{b0 b1 b2 b3 b4:Value}(h:Blk w g 25 #[b0,b1,b2,b3,b4])(a0 a1 a2 a3 a4:Value){B:Nat}{w0:World}(hb:Below B w0 w)(hg:B<=g):Blk (((((w.setCell ⟨g,0,none⟩ a0).setCell ⟨g,1,none⟩ a1).setCell ⟨g,2,none⟩ a2).setCell ⟨g,3,none⟩ a3).setCell ⟨g,4,none⟩ a4) g 25 #[a0,a1,a2,a3,a4]/\
  Below B w0 (((((w.setCell ⟨g,0,none⟩ a0).setCell ⟨g,1,none⟩ a1).setCell ⟨g,2,none⟩ a2).setCell ⟨g,3,none⟩ a3).setCell ⟨g,4,none⟩ a4):=
 ⟨by simpa using((((h.set_ 0 a0).set_ 1 a1).set_ 2 a2).set_ 3 a3).set_ 4 a4,((((hb.setCell (p:=⟨g,0,none⟩) hg _).setCell (p:=⟨g,1,none⟩) hg _).setCell (p:=⟨g,2,none⟩) hg _).setCell (p:=⟨g,3,none⟩) hg _).setCell (p:=⟨g,4,none⟩) hg _⟩
theorem Zu2 (m p h:List UInt8)(rest:List Fld)(b:List UInt8)(hm:m.length<=1000000)(hp:p.length<=1000000)(hh:h.length<=1000000)(hro:restOk rest)(hrl:rest.length<=1000)(htot:tot rest<=1000000)(hbl:b.length<=1000000)(LA:Option Addr)(n c:Nat)(hn:n=(Zc3 m p h []).length+rest.length)(BA:Option Addr)(bn bc:Nat)(hbn:bn=b.length)(hbc:BA=none->bc=0)(w:World)
  (hr:Zab w w.heap.size 2 LA (rest.length+3) (fvs ((Zhg,m)::(Zi7,p)::(Zho,h)::rest))) (hrb:Zab w w.heap.size 1 BA b.length (bs b)):
  CA 12 #[.slice LA n c,.slice BA bn bc] w (FaPost w m p h rest b):=by
 subst hbn
 have hn3:n=rest.length+3:=by rw[hn];simp[Zc3,Zjy];omega
 subst hn3
 obtain⟨W0,hW0⟩:=exl (w.alloc (.cells zReq 25))
 have hb0:Below w.heap.size w W0:=by rw[<-hW0];exact(Below.refl _ _).alloc (Nat.le_refl _) _
 have hR0:Blk W0 w.heap.size 25 zReq:=by rw[<-hW0];exact Blk.new w _ _
 have hs0:W0.heap.size=w.heap.size+1:=by rw[<-hW0];simp
 have HC:=Hd (Zcd BA b b.length bc rfl hbc (by omega) W0 ((hrb.below hb0).more hb0.size))
 have HB0:=Hd hb0
 have HR0:=Hd hR0
 have HS0:=Hd hs0
 have HR:=Hd hr
 have HRO:=Hd hro
 clear hr hrb hb0 hR0 hs0 hro hn
 go_enter func12,ntmps12
 go_wp2_with fail
 refine Mo HC ?_
 rintro e w1 ⟨A1,c1,rfl,ho1,hb1⟩
 have hbw1:Below w.heap.size w w1:=HB0.out.trans (hb1.mono HB0.out.size)
 have hR1:Blk w1 w.heap.size 25 zReq:=HR0.out.below hb1 HR0.out.lt
 obtain⟨X1,hX1⟩:=exl (w1.alloc (.cells #[.string ⟨#[]⟩,.string ⟨#[]⟩,.string ⟨#[]⟩,.slice none 0 0,.slice A1 b.length c1] 25))
 have hsX:X1.heap.size=w1.heap.size+1:=by rw[<-hX1];simp
 have hbX:Below w1.heap.size w1 X1:=by rw[<-hX1];exact(Below.refl _ _).alloc (Nat.le_refl _) _
 have hgX:Blk X1 w1.heap.size 25 (gC m p h (.slice none 0 0) (.slice A1 b.length c1) 0):=by rw[<-hX1];exact Blk.new w1 _ _
 have q0:=run_makeMap_plain (P:=prog) X1 105
 rw[hsX]at q0
 obtain⟨X2,hX2⟩:=exl (X1.alloc (.map #[] 0))
 rw[hX2]at q0
 have hbX2:Below X1.heap.size X1 X2:=by rw[<-hX2];exact(Below.refl _ _).alloc (Nat.le_refl _) _
 have hmX2:Zcz X2 (w1.heap.size+1) #[] 0:=by rw[<-hX2,<-hsX];exact heap_alloc_new X1 _
 obtain⟨X3,hX3⟩:=exl (putM X2 (w1.heap.size+1) #[⟨.string ⟨Zhg.toArray⟩,.pointer (some ⟨w1.heap.size,0,none⟩),0⟩] 1)
 have q1:(Instr.mapUpdate 105 (.map (some (w1.heap.size+1))) (.string ⟨#[58,109,101,116,104,111,100]⟩) (.pointer (some ⟨w1.heap.size,0,none⟩))).run prog X2=.ok () X3:=by
  rw[<-hX3]
  exact Za9 (P:=prog) underlying105 underlying9 rfl hmX2 (by rfl) _
 have hmX3:=Zfc (es:= #[⟨.string ⟨Zhg.toArray⟩,.pointer (some ⟨w1.heap.size,0,none⟩),0⟩]) (c:=1) hmX2
 rw[hX3]at hmX3
 obtain⟨X4,hX4⟩:=exl (putM X3 (w1.heap.size+1) #[⟨.string ⟨Zhg.toArray⟩,.pointer (some ⟨w1.heap.size,0,none⟩),0⟩,⟨.string ⟨Zi7.toArray⟩,.pointer (some ⟨w1.heap.size,1,none⟩),1⟩] 2)
 have q2:(Instr.mapUpdate 105 (.map (some (w1.heap.size+1))) (.string ⟨#[58,112,97,116,104]⟩) (.pointer (some ⟨w1.heap.size,1,none⟩))).run prog X3=.ok () X4:=by
  rw[<-hX4]
  exact Za9 (P:=prog) underlying105 underlying9 rfl hmX3 (by rfl) _
 have hmX4:=Zfc (es:= #[⟨.string ⟨Zhg.toArray⟩,.pointer (some ⟨w1.heap.size,0,none⟩),0⟩,⟨.string ⟨Zi7.toArray⟩,.pointer (some ⟨w1.heap.size,1,none⟩),1⟩]) (c:=2) hmX3
 rw[hX4]at hmX4
 obtain⟨X5,hX5⟩:=exl (putM X4 (w1.heap.size+1) (toE w1.heap.size) 3)
 have q3:(Instr.mapUpdate 105 (.map (some (w1.heap.size+1))) (.string ⟨#[58,104,111,115,116]⟩) (.pointer (some ⟨w1.heap.size,2,none⟩))).run prog X4=.ok () X5:=by
  rw[<-hX5]
  exact Za9 (P:=prog) underlying105 underlying9 rfl hmX4 (by rfl) _
 have hmX5:Zcz X5 (w1.heap.size+1) (toE w1.heap.size) 3:=by rw[<-hX5];exact Zfc hmX4
 have hb15:Below (w1.heap.size+1) X1 X5:=by
  rw[<-hX5,<-hX4,<-hX3]
  exact Zgu (Zgu (Zgu (hbX2.mono (by omega)) (Nat.le_refl _)) (Nat.le_refl _)) (Nat.le_refl _)
 have hgX5:Blk X5 w1.heap.size 25 (gC m p h (.slice none 0 0) (.slice A1 b.length c1) 0):=(hb15.block _ (by omega)).trans hgX
 have hbw5:Below w1.heap.size w1 X5:=hbX.trans (hb15.mono (by omega))
 have hrX5:=HR.out.below (hbw1.trans (hbw5.mono hbw1.size))
 have hs5:=hb15.size
 have HPS:=Hd (Zy2 m p h rest (fun f hf=>(HRO.out f hf).1) (by omega) w1.heap.size (w1.heap.size+1) (.slice none 0 0) (.slice A1 b.length c1) LA (rest.length+3) c rfl X5 (hrX5.more (Nat.le_trans hbw1.size (by omega))) (fun ad e=>by
  obtain⟨ad',e',hB,_⟩:=HR.out.2 (by omega)
  rw[e]at e'
  cases e'
  have:=hbw1.size
  omega) hgX5 hmX5)
 have HR5:=Hd ((hbw5.block _ hR1.lt).trans hR1)
 have HO5:=Hd (Za3 ho1 (Zax.of_below (S:=fun _=>False) hbw5) (fun _ _ h=>h))
 have HBW5:=Hd (hbw1.trans (hbw5.mono hbw1.size))
 have HS1:=Hd hbw1.size
 have HS01:=Hd (show w.heap.size < w1.heap.size from hR1.lt)
 have HS5:=Hd hs5
 have HSX:=Hd hsX
 have HOL:=Hd (fun k hk=>(ho1.lt k hk).2)
 have HGX5:=Hd hgX5
 clear ho1 hb1 hbw1 hR1 hsX hbX hgX hX2 hbX2 hmX2 hX3 hmX3 hX4 hmX4 hX5 hmX5 hb15 hgX5 hbw5 hrX5 hs5 hW0
 go_wp2_with fail
 refine Mo HPS ?_
 rintro e w2 ⟨RA,rc,rfl,hor,hg2,hb2⟩
 have hGX:=HSX.out
 have hGS:=HS5.out
 have hS1:=HS1.out
 have hsz2:=hb2.size
 have hS2:Zvh w w2 w2 w1.heap.size m p h (.slice none 0 0) (.slice A1 b.length c1) b []:=by
  refine⟨hg2,World.ownsRow_nil _ _ _ _,?_,Zac.refl _ _ _,by omega,fun k hk=>by have:=HOL.out k hk;omega⟩
  have h9:=Zdk HO5.out (show w.heap.size<=W0.heap.size by have:=HS0.out;omega)
  refine Za3 h9 (Zsg hb2) fun k hk he=> ?_
  have:=Zao h9 HGX5.out (by decide)
  rw[he]at hk
  exact this hk
 have hR2:Blk w2 w.heap.size 25 zReq:=(hb2.block _ (Blk.lt HR5.out) (by have:=HS01.out;omega)).trans HR5.out
 have hbw2:Below w.heap.size w w2:=HBW5.out.trans (hb2.below (by omega) (by omega))
 have HS2:=Hd hS2
 have HR2:=Hd hR2
 have HBW2:=Hd hbw2
 have HRR:=Hd (Zab.of_own hor)
 have HRN:=Hd (show∀ad,RA=some ad->0 < rest.length->ad.block≠w1.heap.size from fun ad e h0 he=>by
  obtain⟨g,cap,hv,hB,hlt⟩:=hor.form h0
  rw[e]at hv
  cases hv
  simp only at he
  omega)
 clear hor hg2 hb2 hGX hGS hS1 hsz2 hS2 hR2 hbw2 q0 q1 q2 q3
 go_wp2_with fail
 go_loopg [9,32] rest.length (fun mm v9 i wr=>∃(k:Nat) (v3:Value),mm+k=rest.length/\v9=ckV (acK rest k).ck/\i=.int .i64 ((k:Nat):Int)/\Hid (Zvh w w2 wr w1.heap.size m p h v3 (.slice A1 b.length c1) b (acK rest k).l)/\Hid (∀f∈rest.take k,Zds f.1=false))
 case atStart=>exact⟨0,_,rfl,rfl,rfl,HS2.out,(fun f hf=>by cases hf)⟩
 case round=>
  clear HS2
  obtain⟨k,v3,hk,rfl,rfl,HS,HNB⟩:=hrel
  have HK:=Hd hk
  have hkl:k<=rest.length:=by omega
  clear hk
  have hS01:=HS01.out
  have hwz:=HS.out.bw.size
  have hgl:=HS.out.gl
  have HRk:=Hd (show Blk wr w.heap.size 25 zReq from(HS.out.bw.block _ (Blk.lt HR2.out) (by omega)).trans HR2.out)
  have HBk:=Hd (show Below w.heap.size w wr from HBW2.out.trans (HS.out.bw.below HBW2.out.size (by omega)))
  obtain⟨hko,hkt,hkn⟩:=acK_ok rest k
  by_cases hlt:k < rest.length
  ·have hrw:=Zmt HRR.out HRN.out HS.out.bw
   obtain⟨bb,off,hA,hbB,hcl⟩:=Zb4 hrw (by omega)
   subst hA
   obtain⟨c0,cc1⟩:=hcl k hlt
   have hki:((k:Nat):Int) < ((rest.length:Nat):Int):=by omega
   have hbw:bb < wr.heap.size:=Nat.lt_of_lt_of_le hbB hwz
   obtain⟨-,z1,z2,z3⟩:=HRO.out rest[k] (List.getElem_mem hlt)
   have hsuc:=acK_succ rest hlt
   have htm:=Znl rest rest[k] (List.getElem_mem hlt)
   have htk:rest.take (k+1)=rest.take k++[rest[k]]:=List.take_succ_eq_append_getElem hlt
   have hmem:=List.getElem_mem hlt
   obtain⟨f,hfk⟩:=exl (rest[k])
   rw[hfk]at c0 cc1 z1 z2 z3 hsuc htm htk hmem
   obtain⟨f1,f2⟩:=f
   simp only at c0 cc1 z1 z2 z3 htm
   have e1:(f1==[104,111,115,116])=false:=beq_eq_false_iff_ne.2 z1
   have e2:(f1==[108,101,110,103,116,104])=false:=beq_eq_false_iff_ne.2 z2
   obtain⟨WA,hWA⟩:=exl (wr.alloc (.cells #[.string ⟨f1.toArray⟩,.string ⟨f2.toArray⟩] 41))
   have hfl:Blk WA wr.heap.size 41 #[.string ⟨f1.toArray⟩,.string ⟨f2.toArray⟩]:=by rw[<-hWA];exact Blk.new wr _ _
   have hba:Below wr.heap.size wr WA:=by rw[<-hWA];exact(Below.refl _ _).alloc (Nat.le_refl _) _
   have dA0:=hfl.cell 0
   have dAl:=hfl.lt
   have HFL:=Hd hfl
   have HBA:=Hd hba
   have HSUC:=Hd hsuc
   have HTK:=Hd htk
   have HBT:=Hd (Ztl f1)
   have HMEM:=Hd hmem
   clear hcl hbB hfk z1 z2 hsuc htk hmem hfl hba hrw
   cases hbt:Zds f1 with
   | true=>
    rw[hbt]at HBT
    have HX:=Hd hbt
    clear hbt
    go_wp2_with fail
    refine Zd3 (fun w'=>Below WA.heap.size WA w') (by kernel_rfl) (by kernel_rfl) ?_ fun hne=> ?_
    ·exact(Below.refl _ _).drew
    have y0:∀x:WIn (fun w'=>Below WA.heap.size WA w'),x.w.cell? ⟨wr.heap.size,0,none⟩=some (.string ⟨f1.toArray⟩):=fun x=>(HFL.out.below x.h HFL.out.lt).cell 0
    have y1:∀x:WIn (fun w'=>Below WA.heap.size WA w'),x.w.cell? ⟨wr.heap.size,1,none⟩=some (.string ⟨f2.toArray⟩):=fun x=>(HFL.out.below x.h HFL.out.lt).cell 1
    repeat (first | go_big_quiet_skip | (go_big_quiet_want;go_big_quiet_op;go_big_quiet_on))
    go_big_quiet_want
    go_big_quiet_op
    refine⟨_,fun x=>Zcg (HBT.out _) (fun e w9 h9=>⟨h9.1,h9.2 ▸ x.h⟩),?_⟩
    go_big_quiet_on
    repeat (first | go_big_quiet_skip | (go_big_quiet_want;go_big_quiet_op;go_big_quiet_on))
    refine wpQuiet_nil ?_
    intro w9 hw9
    obtain⟨x,rfl⟩:=hw9
    obtain⟨w4,hb4⟩:=x
    simp only
    clear y0 y1 hne
    have hb4':Below wr.heap.size wr w4:=HBA.out.trans (hb4.mono HBA.out.size)
    have hR4:Blk w4 w.heap.size 25 zReq:=HRk.out.below hb4' (Blk.lt HRk.out)
    have r0:=hR4.cell 0
    have r1:=hR4.cell 1
    have r2:=hR4.cell 2
    have r3:=hR4.cell 3
    have r4:=hR4.cell 4
    have k0:=hR4.frozen 0
    have k1:=hR4.frozen 1
    have k2:=hR4.frozen 2
    have k3:=hR4.frozen 3
    have k4:=hR4.frozen 4
    have rl:=hR4.lt
    have HEND:=Hd (set5z hR4 (HBk.out.trans (hb4'.mono HBk.out.size)) (Nat.le_refl _))
    clear hR4 hb4 hb4'
    go_wp2
    refine bodyPost_ret (Zb3 rfl _ _ w.heap.size _ _ _ rfl HEND.out.1 underlying25 rfl Zh9) rfl ?_
    refine⟨HEND.out.2,?_⟩
    rw[if_pos (.inl (List.any_eq_true.2 ⟨_,HMEM.out,HX.out⟩))]
    exact⟨_,_,rfl⟩
   | false=>
    rw[hbt]at HBT
    have HX:=Hd hbt
    clear hbt
    go_wp2_with fail
    refine Zd3 (fun w'=>Below WA.heap.size WA w') (by kernel_rfl) (by kernel_rfl) ?_ fun hne=> ?_
    ·exact(Below.refl _ _).drew
    have y0:∀x:WIn (fun w'=>Below WA.heap.size WA w'),x.w.cell? ⟨wr.heap.size,0,none⟩=some (.string ⟨f1.toArray⟩):=fun x=>(HFL.out.below x.h HFL.out.lt).cell 0
    have y1:∀x:WIn (fun w'=>Below WA.heap.size WA w'),x.w.cell? ⟨wr.heap.size,1,none⟩=some (.string ⟨f2.toArray⟩):=fun x=>(HFL.out.below x.h HFL.out.lt).cell 1
    repeat (first | go_big_quiet_skip | (go_big_quiet_want;go_big_quiet_op;go_big_quiet_on))
    go_big_quiet_want
    go_big_quiet_op
    refine⟨_,fun x=>Zcg (HBT.out _) (fun e w9 h9=>⟨h9.1,h9.2 ▸ x.h⟩),?_⟩
    go_big_quiet_on
    repeat (first | go_big_quiet_skip | (go_big_quiet_want;go_big_quiet_op;go_big_quiet_on))
    refine wpQuiet_nil ?_
    intro w9 hw9
    obtain⟨x,rfl⟩:=hw9
    obtain⟨w4,hb4⟩:=x
    simp only
    clear y0 y1 hne
    have hb4':Below wr.heap.size wr w4:=HBA.out.trans (hb4.mono HBA.out.size)
    have hfl4:=HFL.out.below hb4 HFL.out.lt
    have d0:=hfl4.cell 0
    have d1:=hfl4.cell 1
    have dl:=hfl4.lt
    have HS4:=Hd (HS.out.kept hb4')
    have HNB2:=Hd (show∀f∈rest.take (k+1),Zds f.1=false from fun f hf=>by
     rw[HTK.out]at hf
     rcases List.mem_append.1 hf with h9 | h9
     ·exact HNB.out f h9
     ·rw[List.mem_singleton.1 h9];exact HX.out)
    have hwz4:=HS4.out.bw.size
    clear hb4 hb4' hfl4
    obtain⟨a,ha⟩:=exl (acK rest k)
    rw[ha]at hko hkt hkn HS4 HSUC⊢
    have hfn:((a.l++[(f1,f2)]).length)=a.l.length+1:=by simp
    by_cases hck:f1=Zbq
    ·subst hck
     have e3:(([99,111,111,107,105,101]:List UInt8)==[99,111,111,107,105,101])=true:=rfl
     cases hc:a.ck with
     | some j=>
      have hj:=hko j hc
      have hacc:Zl2 a (Zbq,f2)=⟨Zf2 a.l j f2,some j⟩:=by simp[Zl2,hc]
      rw[hacc]at HSUC
      have e9:ckV (some j)=.int .i64 ((j:Nat):Int):=rfl
      rw[e9]
      obtain⟨g,cap,hv3,hBg,hgl4⟩:=HS4.out.own.form (by omega)
      subst hv3
      have g3:=HS4.out.g.cell 3
      have gcl:=HS4.out.g.lt
      have hca:=HS4.out.own.cells (g:=g) rfl
      obtain⟨x1,x2⟩:=Zqd a.l hj
      have y2:=hca _ _ x2
      rw[Addr.add_lit,Nat.zero_add]at y2
      have yf:=(Zv5 HS4.out.own (j*2+1)).1
      have hvl:=Znl a.l a.l[j] (List.getElem_mem hj)
      obtain⟨xv,hxv⟩:=exl (a.l[j].2)
      have HAT:=Hd (HS4.out.at_ j hj f2)
      rw[hxv]at y2 hvl HAT
      obtain⟨t1,E1,n1,X1e⟩:=Zg9 [59,32] f2
      obtain⟨t2,E2,n2,X2e⟩:=Zg9 xv t1
      have E1':ByteArray.mk #[59,32]++ByteArray.mk f2.toArray=⟨t1.toArray⟩:=E1
      rw[show xv++(Zrx++f2)=t2 by rw[<-X2e,<-X1e];rfl]at HAT
      simp only[List.length_cons,List.length_nil]at n1
      have b1:f2.length<=1000000:=by omega
      have b2:t1.length<=2000000:=by omega
      have b3:xv.length<=1000000:=by omega
      have hji:((j:Nat):Int) < ((a.l.length:Nat):Int):=by omega
      have hj0:(0:Int)<=((j:Nat):Int):=by omega
      have hj1:=decide_eq_true hj0
      clear hca x1 x2 hxv E1 n1 n2 X1e X2e hc hacc
      go_wp2_with fail
      go_region
      go_wp2_with fail
      go_roundg (gk-1)
      case measure=>have:=HK.out;omega
      case rel=>
       refine⟨k+1,.slice (some ⟨g,0,none⟩) (Zf2 a.l j f2).length cap,by have:=HK.out;omega,?_,by go_num,?_,HNB2.out⟩
       ·rw[HSUC.out];rfl
       ·show Zvh _ _ _ _ _ _ _ _ _ _ _
        rw[HSUC.out]
        have h9:=HAT.out.kept ((Below.refl _ _).drew)
        exact h9
     | none=>
      have hacc:Zl2 a (Zbq,f2)=⟨a.l++[(Zbq,f2)],some a.l.length⟩:=by simp[Zl2,hc]
      rw[hacc]at HSUC
      have e9:ckV none=.int .i64 (-1):=rfl
      rw[e9]
      have g3:=HS4.out.g.cell 3
      have gcl:=HS4.out.g.lt
      obtain⟨A3,c3,hv3⟩:=Zas HS4.out.own
      subst hv3
      have HO4:=Hd HS4.out.own
      clear hc hacc
      go_wp2_with (at_builtin;refine Zd1 rfl _ _ rfl w2.heap.size _ _ a.l rfl HO4.out (Zbq,f2) _ rfl rfl (by omega) hwz4 ?_;intro A5 c5 w5 hown5 hg5 hv5 hb5;have hput:=(HS4.out.kept ((Below.refl _ _).alloc (Nat.le_refl _) (.cells #[.string ⟨Zbq.toArray⟩,.string ⟨f2.toArray⟩] 41))).put (v4:=.slice A5 (a.l.length+1) c5) (ys:=a.l++[(Zbq,f2)]) hg5 (by rw[hfn];exact hown5);obtain⟨hp1,p3,pf,pl⟩:=hput;have HP1:=Hd hp1;clear hown5 hg5 hv5 hb5 hp1)
      go_roundg (gk-1)
      case measure=>have:=HK.out;omega
      case rel=>
       refine⟨k+1,.slice A5 (a.l.length+1) c5,by have:=HK.out;omega,?_,by go_num,?_,HNB2.out⟩
       ·rw[HSUC.out];rfl
       ·show Zvh _ _ _ _ _ _ _ _ _ _ _
        rw[HSUC.out]
        exact HP1.out
    ·have e3:(f1==[99,111,111,107,105,101])=false:=beq_eq_false_iff_ne.2 hck
     have hacc:Zl2 a (f1,f2)=⟨a.l++[(f1,f2)],a.ck⟩:=by unfold Zl2;rw[if_neg hck]
     rw[hacc]at HSUC
     have g3:=HS4.out.g.cell 3
     have gcl:=HS4.out.g.lt
     obtain⟨A3,c3,hv3⟩:=Zas HS4.out.own
     subst hv3
     have HO4:=Hd HS4.out.own
     obtain⟨vc,hvc⟩:=exl (ckV a.ck)
     rw[hvc]
     have HVC:=Hd hvc
     clear hck hacc hvc
     go_wp2_with (at_builtin;refine Zd1 rfl _ _ rfl w2.heap.size _ _ a.l rfl HO4.out (f1,f2) _ rfl rfl (by omega) hwz4 ?_;intro A5 c5 w5 hown5 hg5 hv5 hb5;have hput:=(HS4.out.kept ((Below.refl _ _).alloc (Nat.le_refl _) (.cells #[.string ⟨f1.toArray⟩,.string ⟨f2.toArray⟩] 41))).put (v4:=.slice A5 (a.l.length+1) c5) (ys:=a.l++[(f1,f2)]) hg5 (by rw[hfn];exact hown5);obtain⟨hp1,p3,pf,pl⟩:=hput;have HP1:=Hd hp1;clear hown5 hg5 hv5 hb5 hp1)
     go_roundg (gk-1)
     case measure=>have:=HK.out;omega
     case rel=>
      refine⟨k+1,.slice A5 (a.l.length+1) c5,by have:=HK.out;omega,?_,by go_num,?_,HNB2.out⟩
      ·rw[HSUC.out];exact HVC.out.symm
      ·show Zvh _ _ _ _ _ _ _ _ _ _ _
       rw[HSUC.out]
       exact HP1.out
  ·have hk2:k=rest.length:=by omega
   subst hk2
   have hki:¬((rest.length:Nat):Int) < ((rest.length:Nat):Int):=by omega
   have hall:=acK_all rest
   have hany:rest.any (fun f=>Zds f.1)=false:=by
    rw[List.any_eq_false]
    intro f hf
    have:=HNB.out f (by rw[List.take_length];exact hf)
    simp[this]
   have hnm:=Znb (fun x=>x.length<=1000000) rest ⟨[],none⟩ (fun f hf=>by cases hf) (fun f hf=>(HRO.out f hf).2.2.2)
   rw[hall]at hkt hkn HS
   obtain⟨a,ha⟩:=exl (Zke ⟨[],none⟩ rest)
   have HA:=Hd ha
   rw[ha]at hkt hkn HS hnm
   have hlong:Zjm a.l:=fun f hf=>⟨by have:=hnm f hf;omega,by have:=Znl a.l f hf;omega⟩
   obtain⟨A3,c3,hv3⟩:=Zas HS.out.own
   subst hv3
   have g0:=HS.out.g.cell 0
   have g1:=HS.out.g.cell 1
   have g2:=HS.out.g.cell 2
   have g3:=HS.out.g.cell 3
   have g4:=HS.out.g.cell 4
   have gcl:=HS.out.g.lt
   have HC:=Hd (Zex m p h a.l (by omega) (by omega) (by omega) hlong (by omega) A3 a.l.length c3 rfl A1 b.length c1 wr (Zab.of_own HS.out.own))
   have HANY:=Hd hany
   obtain⟨vc,hvc⟩:=exl (ckV (acK rest rest.length).ck)
   rw[hvc]
   clear hall hany hnm ha hlong hvc hko
   go_wp2_with fail
   refine Mo HC ?_
   rintro e w4 ⟨rfl,hb4⟩
   have hR4:Blk w4 w.heap.size 25 zReq:=HRk.out.below hb4 (Blk.lt HRk.out)
   have hS4:=HS.out.kept hb4
   have r0:=hR4.cell 0
   have r1:=hR4.cell 1
   have r2:=hR4.cell 2
   have r3:=hR4.cell 3
   have r4:=hR4.cell 4
   have k0:=hR4.frozen 0
   have k1:=hR4.frozen 1
   have k2:=hR4.frozen 2
   have k3:=hR4.frozen 3
   have k4:=hR4.frozen 4
   have rl:=hR4.lt
   have hBk4:=HBk.out.trans (hb4.mono HBk.out.size)
   by_cases hE:Zf8 m p h a.l b.length=0
   ·rw[hE,Zal]
    have g0:=hS4.g.cell 0
    have g1:=hS4.g.cell 1
    have g2:=hS4.g.cell 2
    have g3:=hS4.g.cell 3
    have g4:=hS4.g.cell 4
    have gcl:=hS4.g.lt
    have HS4:=Hd hS4
    have HR4:=Hd hR4
    have HB4:=Hd hBk4
    have HE:=Hd hE
    clear hS4 hR4 hBk4 hb4 hE
    go_wp2
    have hend:=blk_set5 HR4.out (.string ⟨m.toArray⟩) (.string ⟨p.toArray⟩) (.string ⟨h.toArray⟩) (.slice A3 a.l.length c3) (.slice A1 b.length c1) HB4.out (Nat.le_refl _)
    refine bodyPost_ret (Zb3 rfl _ _ w.heap.size _ _ _ rfl hend.1 underlying25 rfl Zh9) rfl ?_
    refine⟨hend.2,?_⟩
    rw[if_neg (by rw[HANY.out,HA.out];rintro(h9 | h9);· cases h9
                  ·exact h9 HE.out),HA.out]
    have hn1:(Value.slice A3 a.l.length c3).ownBlock≠some w.heap.size:=Zao HS4.out.own HR4.out (by decide)
    have hn2:(Value.slice A1 b.length c1).ownBlock≠some w.heap.size:=Zao HS4.out.ob HR4.out (by decide)
    exact⟨_,_,_,_,rfl,Zdk (Zuk HS4.out.own hn1 _ _ _ _ _) HBW2.out.size,Zuk HS4.out.ob hn2 _ _ _ _ _⟩
   ·rw[Zbe hE]
    have HEND:=Hd (set5z hR4 hBk4 (Nat.le_refl _))
    have HE:=Hd hE
    clear hS4 hR4 hBk4 hb4 hE
    go_wp2
    refine bodyPost_ret (Zb3 rfl _ _ w.heap.size _ _ _ rfl HEND.out.1 underlying25 rfl Zh9) rfl ?_
    refine⟨HEND.out.2,?_⟩
    rw[if_pos (.inr (by rw[HA.out];exact HE.out))]
    exact⟨_,_,rfl⟩
theorem expF_mem {f g:Fld}(hg:g∈Z0j f):g.1=f.1/\g.2.length<=f.2.length:=by
 unfold Z0j at hg
 split at hg
 ·rename_i h
  obtain⟨x,hx,rfl⟩:=List.mem_map.1 hg
  exact⟨h.symm,Zjk Zrx _ f.2 x hx⟩
 ·rw[List.mem_singleton.1 hg]
  exact⟨rfl,Nat.le_refl _⟩
theorem Zon {fs:List Fld}{g:Fld}(hg:g∈Zjy fs):∃f∈fs,g.1=f.1/\g.2.length<=f.2.length:=by
 obtain⟨f,hf,h⟩:=List.mem_flatMap.1 hg
 exact⟨f,hf,expF_mem h⟩
theorem Zpb :∀(l:List Fld) (B:Nat),(∀f∈l,f.2.length<=B)->tot l<=l.length*(B+2)
 | [],B,_=>by simp[tot]
 | f::l,B,h=>by
  have h1:=Zpb l B fun g hg=>h g (List.mem_cons_of_mem _ hg)
  have h2:=h f (List.mem_cons_self ..)
  have e:tot (f::l)=f.2.length+2+tot l:=by simp[tot]
  rw[e,List.length_cons,Nat.add_mul]
  omega
theorem rest_ok {fs:List Fld}(h:∀f∈fs,Zwq f):restOk (Zjy fs):=by
 intro g hg
 obtain⟨f,hf,e,_⟩:=Zon hg
 obtain⟨g1,g2,g3⟩:=h f hf
 obtain⟨n1,n2,n3⟩:=Zet g1
 rw[e]
 refine⟨?_,?_,?_,by omega⟩
 ·intro y hy he
  exact(n3 y (List.mem_of_mem_head? hy)).2 he.symm
 ·rintro h9
  rw[h9]at g3
  revert g3
  decide
 ·rintro h9
  rw[h9]at g3
  revert g3
  decide
theorem Zut {m p h:List UInt8}{fs:List Fld}(hm:m.length<=400)(hp:p.length<=400)(hh:h.length<=400)(hf:∀f∈fs,Zwq f):∀f∈Zc3 m p h fs,fOk f:=by
 intro f hfm
 unfold Zc3 at hfm
 simp only[List.mem_cons]at hfm
 rcases hfm with rfl | rfl | rfl | hfm
 ·exact⟨by show(7:Nat)<=_;omega,by show m.length<=_;omega⟩
 ·exact⟨by show(5:Nat)<=_;omega,by show p.length<=_;omega⟩
 ·exact⟨by show(5:Nat)<=_;omega,by show h.length<=_;omega⟩
 ·obtain⟨g,hg,e1,e2⟩:=Zon hfm
  obtain⟨g1,g2,g3⟩:=hf g hg
  have:=(Zet g1).2.1
  have:=Zbx g2
  exact⟨by rw[e1];omega,by omega⟩
def Zrg (w:World)(g:Nat):Prop:=w.cell? ⟨g,0,none⟩=some (.string ⟨#[]⟩)/\w.cell? ⟨g,1,none⟩=some (.string ⟨#[47]⟩)/\w.cell? ⟨g,2,none⟩=some (.string ⟨#[97,108,108]⟩)
theorem Zrg.below {w w':World}{g:Nat}(h:Zrg w g)(hb:Below w.heap.size w w'):Zrg w' g:=⟨Zaj hb h.1,Zaj hb h.2.1,Zaj hb h.2.2⟩
theorem rt_index (A:Option Addr)(c:Nat)(f:Value)(w:World):
  CA 209 #[.slice A 0 c,f] w fun e w'=>e=.returned (.int .i64 (-1))/\w=w':=by
 go_enter func209,ntmps209
 go_wp2
 refine wp_loop_rounds 1 ?_
 rw[rounds_succ]
 go_wp2
 go_ret
 exact⟨rfl,rfl⟩
theorem rt_has (A:Option Addr)(c:Nat)(f:Value)(w:World):
  CA 153 #[.slice A 0 c,f] w fun e w'=>e=.returned (.bool false)/\w=w':=by
 go_enter func153,ntmps153
 go_wp2_with (go_at_call 209;refine(rt_index _ _ _ _).mono ?_;rintro e w' ⟨rfl,rfl⟩)
 go_ret
 exact⟨rfl,rfl⟩
theorem rt_one (g c:Nat)(hc:1<=c)(w:World)(h:Zrg w g):
  CA 99 #[.slice (some ⟨g,0,none⟩) 1 c,.int .i64 0] w fun e w'=>e=.returned .nilIface/\Below w.heap.size w w':=by
 obtain⟨h0,h1,h2⟩:=h
 have hb:=(Below.refl w.heap.size w).alloc (Nat.le_refl _) (.cells #[.string ⟨#[]⟩,.string ⟨#[47]⟩,.string ⟨#[97,108,108]⟩] 47)
 have HB:=Hd hb
 have HK:=Hd (Blk.new w 47 #[.string ⟨#[]⟩,.string ⟨#[47]⟩,.string ⟨#[97,108,108]⟩])
 have q1:=Tryz.strings_HasPrefix ⟨#[47]⟩ ⟨#[47]⟩ (w.alloc (.cells #[.string ⟨#[]⟩,.string ⟨#[47]⟩,.string ⟨#[97,108,108]⟩] 47))
 have HP:=Hd q1
 clear hb q1
 go_enter func99,ntmps99
 go_wp2_with fail
 refine Mo HP ?_
 rintro e w' ⟨rfl,rfl⟩
 rw[show Lib.hasPrefix [47] [47]=true from by decide]
 have k1:=HK.out.cell 1
 go_wp2_with fail
 refine(Zh5 [47] (by decide) _).mono ?_
 rintro e w1 ⟨rfl,hb1⟩
 rw[show Zc4 [47]=true from by decide]
 have HB1:=Hd (HB.out.trans (hb1.mono HB.out.size))
 have hk1:=HK.out.below hb1 HK.out.lt
 have k2:=hk1.cell 2
 have HK1:=Hd hk1
 clear hb1 hk1
 go_wp2_with fail
 refine(Ze5 [97,108,108] (by decide) _).mono ?_
 rintro e w2 ⟨rfl,hb2⟩
 rw[show Zgi [97,108,108]=true from by decide]
 have HB2:=Hd (HB1.out.trans (hb2.mono HB1.out.size))
 clear hb2
 go_wp2_with (go_at_call 153;refine(rt_has _ _ _ _).mono ?_;rintro e w' ⟨rfl,rfl⟩)
 go_ret
 exact⟨rfl,HB2.out⟩
theorem Zt9 (g c:Nat)(hc:1<=c)(w:World)(h:Zrg w g):
  CA 49 #[.slice (some ⟨g,0,none⟩) 1 c] w fun e w'=>e=.returned .nilIface/\Below w.heap.size w w':=by
 have H:=Hd h
 clear h
 go_enter func49,ntmps49
 go_wp2
 refine wp_loop_rounds 2 ?_
 rw[rounds_succ]
 go_wp2_with fail
 refine(rt_one g c hc w H.out).mono ?_
 rintro e w1 ⟨rfl,hb⟩
 have HB:=Hd hb
 clear hb
 go_wp2
 rw[rounds_succ]
 go_wp2
 go_ret
 exact⟨rfl,HB.out⟩
theorem Zig (w:World)(e:TypeId)(size:Nat):(w.alloc (.cells #[] e)).ownsRow w.heap.size e size (.slice (some ⟨w.heap.size,0,none⟩) 0 0) 0 []:=
 ⟨by simp,.inr ⟨w.heap.size,0, #[],rfl,Nat.le_refl _,heap_alloc_new w _,Nat.le_refl _,by simp,by simp,by simp⟩⟩
def rtV :List Value:=[.string ⟨#[]⟩,.string ⟨#[47]⟩,.string ⟨#[97,108,108]⟩]
theorem Zyr :(prog.info? 47).map (fun i=>(i.zero,i.size,i.bytes))=some (some (.agg #[.string ⟨#[]⟩,.string ⟨#[]⟩,.string ⟨#[]⟩]),3,48):=by kernel_rfl
theorem Zrg.reads {w:World}{g:Nat}(h:Zrg w g):Zab w w.heap.size 3 (some ⟨g,0,none⟩) 1 rtV:=by
 refine⟨rfl,fun _=>⟨_,rfl,World.block_lt_of_cell? w _ h.1,fun j u hj=> ?_⟩⟩
 match j,hj with
 | 0,hj=>cases hj;exact h.1
 | 1,hj=>cases hj;exact h.2.1
 | 2,hj=>cases hj;exact h.2.2
 | j+3,hj=>simp[rtV]at hj
theorem rt_clone {w:World}{F:List Zae}(h:Sep w F)(g c:Nat)(hr:Zrg w g):
  CA 52 #[.slice (some ⟨g,0,none⟩) 1 c] w fun e w'=>∃A' c',e=.returned (.slice A' 1 c')/\Sep w' (Zad 47 3 (.slice A' 1 c') 1 rtV::F)/\Below w.heap.size w w':=by
 have ho:=Zig w 47 3
 have hb:=(Below.refl w.heap.size w).alloc (Nat.le_refl _) (.cells #[] 47)
 have HO:=Hd ho
 have HB:=Hd hb
 have HR:=Hd (hr.below hb).reads
 have H:=Hd h
 clear ho hb hr h
 have q:=Lib.run_eql_slice_nil (P:=prog) w 48 47 (some ⟨g,0,none⟩) 1 c 0 0 underlying48
 obtain⟨i0,hi0,hz0,hz1,hz2⟩:=info_parts Zyr
 go_enter func52,ntmps52
 go_wp2_with (at_builtin;refine Zah _ rfl _ _ 48 rfl w.heap.size 47 i0 (.agg #[.string ⟨#[]⟩,.string ⟨#[]⟩,.string ⟨#[]⟩]) 3 48 underlying48 hi0 hz0 hz1 hz2 rfl (by decide) _ 0 [] rfl HO.out _ (some ⟨g,0,none⟩) 1 c rtV rfl HR.out (by intro u hu;simp[rtV]at hu;rcases hu with rfl | rfl | rfl <;> rfl) (by unfold maxLen;omega) (by omega) (by simp) ?_;intro v' w' hown' hg _;have hb2:=Zbl HB.out HO.out hg (by simp))
 go_ret
 obtain⟨A',c',rfl⟩:=Zas hown'
 exact⟨A',c',rfl,H.out.newRow hb2 hown',hb2⟩
theorem Sep.rt {w:World}{L:List Zae}{i g:Nat}(h:Sep w L)(hi:L[i]? =some (Zaa g 47 rtV.toArray)):Zrg w g:=⟨(h.blk hi).cell 0,(h.blk hi).cell 1,(h.blk hi).cell 2⟩
def Za7 (K:Nat)(R:Value)(Li St CM JM:Nat)(last:Int)(log:Value):Array Value:=
 #[.pointer (some ⟨K,0,none⟩),R,.pointer (some ⟨Li,0,none⟩),.pointer (some ⟨St,0,none⟩),.map (some CM),.map (some JM),.int .i64 last,.int .i64 0,log]
theorem gat_new {w:World}{F:List Zae}(g c:Nat)(hc:1<=c)(h:Sep w (Zaa g 47 rtV.toArray::F)):
  CA 13 #[.slice (some ⟨g,0,none⟩) 1 c,.int .i64 10,.int .i64 10] w fun e w'=>∃G K RA rc Li LM LM' St CM JM S MS M C gg hh A cc,e=.returned (.tuple #[.pointer (some ⟨G,0,none⟩),.nilIface])/\
   Sep w' (Zaa G 120 (Za7 K (.slice RA 1 rc) Li St CM JM 0 (.slice none 0 0))::Zak JM #[] 0::Zak CM #[] 0::Zaa St 203 #[.slice none 0 0]::Zad 47 3 (.slice RA 1 rc) 1 rtV::
    Zaa K 200 (Zaf C S M (.slice none 0 0) (.slice none 0 0) (.slice A 9 cc) 2000 2000 0 false (.pointer none) (.slice none 0 0))::Zad 5 1 (.slice A 9 cc) 9 (bs Zf6)::Zak M #[] 0::Zaa S 254 #[.map (some MS),.int .i64 0]::Zak MS #[] 0::Zaa C 93 (Zai gg hh)::Zbw gg none 0 [] 4096::Zbw hh none 0 [] 4096::
    Zaa Li 193 #[.int .i64 10,.int .i64 10,.map (some LM),.map (some LM')]::Zak LM' #[] 0::Zak LM #[] 0::Zaa g 47 rtV.toArray::F):=by
 have H:=Hd h
 clear h
 have q0:=fun w t=>run_makeMap_plain (P:=prog) w t
 go_enter func13,ntmps13
 go_wp2_with fail
 refine(Zt9 g c hc w (H.out.rt (i:=0) rfl)).mono ?_
 rintro e w1 ⟨rfl,hb1⟩
 have H1:=Hd (H.out.below hb1)
 clear hb1
 go_wp2_with fail
 refine(li_new H1.out).mono ?_
 rintro e w2 ⟨Li,LM,LM',rfl,h2⟩
 have H2:=Hd h2
 clear h2
 go_wp2_with fail
 refine(Z01 H2.out).mono ?_
 rintro e w3 ⟨K,S,MS,M,C,gg,hh,A,cc,rfl,h3⟩
 have H3:=Hd h3
 clear h3
 go_wp2_with fail
 refine(rt_clone H3.out g c (H3.out.rt (i:=11) rfl)).mono ?_
 rintro e w4 ⟨RA,rc,rfl,h4,-⟩
 have H4:=Hd h4
 clear h4
 go_wp2_with fail
 refine(Zyf H4.out).mono ?_
 rintro e w5 ⟨St,rfl,h5⟩
 have h6:=h5.newMap.newMap.newBlk 120 (Za7 K (.slice RA 1 rc) Li St w5.heap.size (w5.heap.size+1) 0 (.slice none 0 0))
 simp only[World.size_alloc]at h6
 have H6:=Hd h6
 clear h5 h6
 go_wp2
 go_ret2
 exact⟨_,_,_,_,_,_,_,_,_,_,_,_,_,_,_,_,_,_,rfl,H6.out⟩
theorem ix_none (A:Option Addr)(c:Nat)(f:Value)(w:World):
  CA 160 #[.slice A 0 c,f] w fun e w'=>e=.returned (.int .i64 (-1))/\w=w':=by
 go_enter func160,ntmps160
 go_wp2
 refine wp_loop_rounds 1 ?_
 rw[rounds_succ]
 go_wp2
 go_ret
 exact⟨rfl,rfl⟩
theorem Zu7 (A:Option Addr)(c:Nat)(f:Value)(w:World):
  CA 108 #[.slice A 0 c,f] w fun e w'=>e=.returned (.slice A 0 c)/\w=w':=by
 go_enter func108,ntmps108
 go_wp2_with (go_at_call 160;refine(ix_none _ _ _ _).mono ?_;rintro e w' ⟨rfl,rfl⟩)
 go_ret
 exact⟨rfl,rfl⟩
theorem Zeh {w:World}{L:List Zae}{i c:Nat}{A:Option Addr}{u:Value}{e:TypeId}(h:Sep w L)(hi:L[i]? =some (Zad e 1 (.slice A 1 c) 1 [u])):
  ∃g,A=some ⟨g,0,none⟩/\w.cell? ⟨g,0,none⟩=some u/\w.frozen? ⟨g,0,none⟩=false/\g < w.heap.size/\1<=c:=by
 obtain⟨h1,h2⟩:=h.row hi
 rcases h2 with⟨_,h3⟩ | ⟨g,cap,cur,hv,_,hg,hc,_,hcs,ht⟩
 ·cases h3
 ·cases hv
  refine⟨g,rfl,?_,Blk.frozen (t:=e) (cs:=cur) hg 0,Blk.lt (t:=e) (cs:=cur) hg,hc⟩
  rw[Blk.cell (t:=e) (cs:=cur) hg 0]
  have h4:(cur.toList.take (1*1))[0]? =some u:=by rw[ht];rfl
  simpa using h4
theorem Zuc {w:World}{F:List Zae}{c g:Nat}{u:Value}{e:TypeId}(h:Sep w (Zad e 1 (.slice (some ⟨g,0,none⟩) 1 c) 1 [u]::F))(v:Value):
  Sep (w.setCell ⟨g,0,none⟩ v) (Zad e 1 (.slice (some ⟨g,0,none⟩) 0 c) 0 []::F):=by
 obtain⟨h1,h2⟩:=h.row (i:=0) rfl
 rcases h2 with⟨_,h3⟩ | ⟨g',cap,cur,hv,_,hg,hc,hm,hcs,ht⟩
 ·cases h3
 ·cases hv
  have hB:=Blk.set_ (t:=e) (cs:=cur) hg 0 v
  exact h.upd (i:=0) rfl (show Zax (fun k=>some g=some k) _ _ from(Zax.refl (fun k=>some g=some k) w).setCell (p:=⟨g,0,none⟩) (.inl rfl) v) (show(w.setCell ⟨g,0,none⟩ v).ownsRow 0 e 1 (.slice (some ⟨g,0,none⟩) 0 c) 0 []from⟨by simp,.inr ⟨g,c,_,rfl,Nat.zero_le _,hB,Nat.zero_le _,hm,by simpa using hcs,by simp⟩⟩) (fun k hk=>by injection hk with hk;subst hk;exact hB.lt) (fun k hk=> .inl hk)
theorem Ztp (w:World):(zeroValue 3).run prog w=.ok (.int .i64 0) w:=by kernel_rfl
theorem ix_one_c {w:World}{L:List Zae}{i X c:Nat}{A:Option Addr}{u:Int}(h:Sep w L)(hi:L[i]? =some (Zad 3 1 (.slice A 1 c) 1 [.int .i64 u]))
  (hf:CA 109 #[.int .i64 u,.pointer (some ⟨X,0,none⟩)] w fun e w'=>e=.returned (.bool true)/\w=w'):
  CA 160 #[.slice A 1 c,.func (.func 109) #[] #[.pointer (some ⟨X,0,none⟩)]] w fun e w'=>e=.returned (.int .i64 0)/\w=w':=by
 obtain⟨g,rfl,h0,-,-,-⟩:=Zeh h hi
 have HF:=Hd hf
 clear h hi hf
 go_enter func160,ntmps160
 go_wp2
 refine wp_loop_rounds 1 ?_
 rw[rounds_succ]
 go_wp2_with fail
 refine Mo HF ?_
 rintro e w' ⟨rfl,rfl⟩
 go_wp2
 go_ret
 exact⟨rfl,rfl⟩
theorem Zqs {w:World}{F:List Zae}{X c:Nat}{A:Option Addr}{u:Int}(h:Sep w (Zad 3 1 (.slice A 1 c) 1 [.int .i64 u]::F))
  (hf:CA 109 #[.int .i64 u,.pointer (some ⟨X,0,none⟩)] w fun e w'=>e=.returned (.bool true)/\w=w'):
  CA 108 #[.slice A 1 c,.func (.func 109) #[] #[.pointer (some ⟨X,0,none⟩)]] w fun e w'=>e=.returned (.slice A 0 c)/\Sep w' (Zad 3 1 (.slice A 0 c) 0 []::F):=by
 have HI:=Hd (ix_one_c h (i:=0) rfl hf)
 obtain⟨g,rfl,h0,h1,h2,h3⟩:=Zeh h (i:=0) rfl
 have HE:=Hd (Zuc h (.int .i64 0))
 have qc:∀ty,(Builtin.clear_ #[58] ty #[.slice (some ⟨g,0,none⟩) 1 c]).run prog w=.ok (.tuple #[]) (w.setCell ⟨g,0,none⟩ (.int .i64 0)):=fun ty=>
  Lib.run_clear_slice (P:=prog) w 58 3 ty (.int .i64 0) underlying58 Ztp rfl rfl g 0 1 c (by decide) (by intro j hj;have:j=0:=(by omega);subst this;rw[h0];rfl) (by intro j hj;have:j=0:=(by omega);subst this;exact h1)
 clear h hf
 go_enter func108,ntmps108
 go_wp2_with fail
 refine Mo HI ?_
 rintro e w' ⟨rfl,rfl⟩
 go_wp2
 refine wp_loop_rounds 1 ?_
 rw[rounds_succ]
 go_wp2
 go_ret
 exact⟨rfl,HE.out⟩
theorem ix_one_n {w:World}{L:List Zae}{i X c:Nat}{A:Option Addr}{u:Int}(h:Sep w L)(hi:L[i]? =some (Zad 3 1 (.slice A 1 c) 1 [.int .i64 u]))
  (hf:CA 302 #[.int .i64 u,.pointer (some ⟨X,0,none⟩)] w fun e w'=>e=.returned (.bool true)/\w=w'):
  CA 160 #[.slice A 1 c,.func (.func 302) #[] #[.pointer (some ⟨X,0,none⟩)]] w fun e w'=>e=.returned (.int .i64 0)/\w=w':=by
 obtain⟨g,rfl,h0,-,-,-⟩:=Zeh h hi
 have HF:=Hd hf
 clear h hi hf
 go_enter func160,ntmps160
 go_wp2
 refine wp_loop_rounds 1 ?_
 rw[rounds_succ]
 go_wp2_with fail
 refine Mo HF ?_
 rintro e w' ⟨rfl,rfl⟩
 go_wp2
 go_ret
 exact⟨rfl,rfl⟩
theorem Zlh {w:World}{F:List Zae}{X c:Nat}{A:Option Addr}{u:Int}(h:Sep w (Zad 3 1 (.slice A 1 c) 1 [.int .i64 u]::F))
  (hf:CA 302 #[.int .i64 u,.pointer (some ⟨X,0,none⟩)] w fun e w'=>e=.returned (.bool true)/\w=w'):
  CA 108 #[.slice A 1 c,.func (.func 302) #[] #[.pointer (some ⟨X,0,none⟩)]] w fun e w'=>e=.returned (.slice A 0 c)/\Sep w' (Zad 3 1 (.slice A 0 c) 0 []::F):=by
 have HI:=Hd (ix_one_n h (i:=0) rfl hf)
 obtain⟨g,rfl,h0,h1,h2,h3⟩:=Zeh h (i:=0) rfl
 have HE:=Hd (Zuc h (.int .i64 0))
 have qc:∀ty,(Builtin.clear_ #[58] ty #[.slice (some ⟨g,0,none⟩) 1 c]).run prog w=.ok (.tuple #[]) (w.setCell ⟨g,0,none⟩ (.int .i64 0)):=fun ty=>
  Lib.run_clear_slice (P:=prog) w 58 3 ty (.int .i64 0) underlying58 Ztp rfl rfl g 0 1 c (by decide) (by intro j hj;have:j=0:=(by omega);subst this;rw[h0];rfl) (by intro j hj;have:j=0:=(by omega);subst this;exact h1)
 clear h hf
 go_enter func108,ntmps108
 go_wp2_with fail
 refine Mo HI ?_
 rintro e w' ⟨rfl,rfl⟩
 go_wp2
 refine wp_loop_rounds 1 ?_
 rw[rounds_succ]
 go_wp2
 go_ret
 exact⟨rfl,HE.out⟩
end
end Go.Proofs.YtbgnggkgmeagkaaGreatDoor
