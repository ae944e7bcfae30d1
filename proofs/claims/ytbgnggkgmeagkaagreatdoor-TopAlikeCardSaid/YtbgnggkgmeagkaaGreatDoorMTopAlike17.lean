/-
  A part of the proof of TopAlike: each theorem states its own conditions.
-/
import Derived.Test.YtbgnggkgmeagkaaGreatDoorMTopAlike16
set_option linter.unusedSimpArgs false
set_option linter.unusedVariables false
set_option maxRecDepth 100000
set_option maxHeartbeats 16000000
namespace Go.Proofs.YtbgnggkgmeagkaaGreatDoor
open Go.Proofs.Tryz
section
open Go.RowKit
def gC (m p h:List UInt8)(a3 a4:Value):Nat->Array Value
 | 0=> #[.string ⟨#[]⟩,.string ⟨#[]⟩,.string ⟨#[]⟩,a3,a4]
 | 1=> #[.string ⟨m.toArray⟩,.string ⟨#[]⟩,.string ⟨#[]⟩,a3,a4]
 | 2=> #[.string ⟨m.toArray⟩,.string ⟨p.toArray⟩,.string ⟨#[]⟩,a3,a4]
 | _=> #[.string ⟨m.toArray⟩,.string ⟨p.toArray⟩,.string ⟨h.toArray⟩,a3,a4]
def toE (G:Nat):Array MapEntry:= #[⟨.string ⟨Zhg.toArray⟩,.pointer (some ⟨G,0,none⟩),0⟩,⟨.string ⟨Zi7.toArray⟩,.pointer (some ⟨G,1,none⟩),1⟩,⟨.string ⟨Zho.toArray⟩,.pointer (some ⟨G,2,none⟩),2⟩]
def Zvq :Nat->Array MapEntry
 | 0=> #[]
 | 1=> #[⟨.string ⟨Zhg.toArray⟩,.bool true,0⟩]
 | 2=> #[⟨.string ⟨Zhg.toArray⟩,.bool true,0⟩,⟨.string ⟨Zi7.toArray⟩,.bool true,1⟩]
 | _=> #[⟨.string ⟨Zhg.toArray⟩,.bool true,0⟩,⟨.string ⟨Zi7.toArray⟩,.bool true,1⟩,⟨.string ⟨Zho.toArray⟩,.bool true,2⟩]
structure PsSt (w wr:World)(G mb sb:Nat)(m p h:List UInt8)(a3 a4:Value)(j:Nat)(v:Value)(xs:List Fld):Prop where
 g:Blk wr G 25 (gC m p h a3 a4 j)
 mb_:Zcz wr mb (toE G) 3
 sb_:Zcz wr sb (Zvq j) j
 own:wr.ownsRow w.heap.size 41 2 v xs.length (fvs xs)
 bw:Zac w.heap.size G w wr
 gl:G < w.heap.size
 ml:mb < w.heap.size
 sl:w.heap.size<=sb
theorem PsSt.kept {w wr w1:World}{G mb sb:Nat}{m p h:List UInt8}{a3 a4:Value}{j:Nat}{v:Value}{xs:List Fld}(H:PsSt w wr G mb sb m p h a3 a4 j v xs)(hb:Below wr.heap.size wr w1):PsSt w w1 G mb sb m p h a3 a4 j v xs:=
 ⟨H.g.below hb H.g.lt,H.mb_.below hb H.mb_.lt,H.sb_.below hb H.sb_.lt,Za3 H.own (Zax.of_below (S:=fun _=>False) hb) (fun _ _ h=>h),H.bw.trans (Zac.of (hb.mono H.bw.size)),H.gl,H.ml,H.sl⟩
theorem Zmt {w wr:World}{G:Nat}{size n:Nat}{LA:Option Addr}{xs:List Value}(hr:Zab w w.heap.size size LA n xs)(hne:∀ad,LA=some ad->0 < n->ad.block≠G)(hb:Zac w.heap.size G w wr):Zab wr w.heap.size size LA n xs:=by
 refine⟨hr.1,fun h0=> ?_⟩
 obtain⟨ad,e,hB,hc⟩:=hr.2 h0
 refine⟨ad,e,hB,fun j u hu=> ?_⟩
 rw[<-hc j u hu]
 exact hb.cell (by rw[Zbk];exact hB) (by rw[Zbk];exact hne ad e h0)
theorem Zr5 {w wr W4:World}{G mb sb:Nat}{m p h:List UInt8}{a3 a4:Value}{j i c:Nat}{v x:Value}{xs:List Fld}(H:PsSt w wr G mb sb m p h a3 a4 j v xs)(hW:putM wr sb (Zvq i) c=W4)(hc:c=i)(hij:(gC m p h a3 a4 j).setIfInBounds j x=gC m p h a3 a4 i):
  PsSt w (W4.setCell ⟨G,j,none⟩ x) G mb sb m p h a3 a4 i v xs:=by
 subst hW
 subst hc
 have hms:mb≠sb:=by have:=H.ml;have:=H.sl;omega
 refine⟨?_,?_,?_,?_,?_,H.gl,H.ml,H.sl⟩
 ·have:=(H.g.putM H.sb_ (es:=Zvq c) (c:=c)).set_ j x
  rwa [hij]at this
 ·exact Zcz.setCell ((Zd8 hms).trans H.mb_) _ _
 ·exact(Zfc H.sb_).setCell _ _
 ·exact Zb5 (own_putM H.own H.sb_) (p:=⟨G,j,none⟩) H.gl x
 ·refine Zac.setCell ?_ (p:=⟨G,j,none⟩) (.inl rfl) x
  exact H.bw.trans (Zac.of (Zgu (Below.refl _ _) H.sl))
theorem pre_no {s:List UInt8}(h:∀y,s.head? =some y->y≠58):Lib.hasPrefix s [58]=false:=by
 cases s with
 | nil=>rfl
 | cons y t=>
  have h1:=h y rfl
  unfold Lib.hasPrefix
  simp[List.isPrefixOf,h1.symm]
theorem Zkf :∀w,(zeroValue 4).run prog w=.ok (.bool false) w:=by
 intro w
 kernel_rfl
theorem Zy2 (m p h:List UInt8)(rest:List Fld)(hno:∀f∈rest,∀y,f.1.head? =some y->y≠58)(hrl:rest.length<=100000)(G mb:Nat)(a3 a4:Value)(LA:Option Addr)(n c:Nat)(hn:n=rest.length+3)(w:World)(hr:Zab w w.heap.size 2 LA (rest.length+3) (fvs ((Zhg,m)::(Zi7,p)::(Zho,h)::rest)))(hne:∀ad,LA=some ad->ad.block≠G)
  (hg:Blk w G 25 (gC m p h a3 a4 0)) (hmb:Zcz w mb (toE G) 3):
  CA 47 #[.slice LA n c,.map (some mb)] w fun e w'=>∃A c2,e=.returned (.tuple #[.slice A rest.length c2,.nilIface])/\w'.ownsRow w.heap.size 41 2 (.slice A rest.length c2) rest.length (fvs rest)/\Blk w' G 25 (gC m p h a3 a4 3)/\Zac w.heap.size G w w':=by
 subst hn
 have HS0:=Hd (show PsSt w (w.alloc (.map #[] 0)) G mb w.heap.size m p h a3 a4 0 (.slice none 0 0) []from by
  have hba:Below w.heap.size w (w.alloc (.map #[] 0)):=(Below.refl _ _).alloc (Nat.le_refl _) _
  exact⟨hg.below hba hg.lt,hmb.below hba hmb.lt,heap_alloc_new w _,World.ownsRow_nil _ _ _ _,Zac.of hba,hg.lt,hmb.lt,Nat.le_refl _⟩)
 have HR:=Hd hr
 have HNE:=Hd hne
 have HNO:=Hd hno
 clear hr hne hno hg hmb
 have q0:=run_makeMap_plain (P:=prog) w 186
 go_enter func47,ntmps47
 go_wp2_with fail
 go_loopg [4,14] (rest.length+3) (fun mm v4 i wr=>∃(k j N:Nat) (A:Option Addr) (c2:Nat),mm+k=rest.length+3/\v4=.slice A N c2/\i=.int .i64 ((k:Nat):Int)/\Hid (j=min k 3)/\Hid (N=(rest.take (k-3)).length)/\Hid (PsSt w wr G mb w.heap.size m p h a3 a4 j (.slice A N c2) (rest.take (k-3))))
 case atStart=>exact⟨0,0,0,none,0,rfl,rfl,rfl,rfl,rfl,HS0.out⟩
 case round=>
  clear HS0
  obtain⟨k,j,N,A,c2,hk,rfl,rfl,HJ,HN,HS⟩:=hrel
  have HK:=Hd hk
  have hkl:k<=rest.length+3:=by omega
  clear hk
  have hwz:=HS.out.bw.size
  by_cases hlt:k < rest.length+3
  ·have hrw:=Zmt HR.out (fun ad e _=>HNE.out ad e) HS.out.bw
   obtain⟨b,off,hA,hbB,hcl⟩:=Zb4 (l:=(Zhg,m)::(Zi7,p)::(Zho,h)::rest) hrw (by simp)
   subst hA
   have hki:((k:Nat):Int) < ((rest.length:Nat):Int)+3:=by omega
   have hbw:b < wr.heap.size:=Nat.lt_of_lt_of_le hbB hwz
   rcases Nat.lt_or_ge k 3 with hk3 | hk3
   ·rcases(show k=0∨k=1∨k=2 by omega)with rfl | rfl | rfl
    ·have hj:j=0:=HJ.out
     subst hj
     obtain⟨c0,c1⟩:=hcl 0 (by simp)
     have hN0:N=0:=by have:=HN.out;simpa using this
     subst hN0
     have c0:wr.cell? ⟨b,off,none⟩=some (.string ⟨#[58,109,101,116,104,111,100]⟩):=c0
     have c1:wr.cell? ⟨b,off+1,none⟩=some (.string ⟨m.toArray⟩):=c1
     have hba:Below wr.heap.size wr (wr.alloc (.cells #[.string ⟨#[58,109,101,116,104,111,100]⟩,.string ⟨m.toArray⟩] 41)):=(Below.refl _ _).alloc (Nat.le_refl _) _
     have hsa:=HS.out.kept hba
     have hfl:=Blk.new wr 41 #[.string ⟨#[58,109,101,116,104,111,100]⟩,.string ⟨m.toArray⟩]
     have q1:=Zcr (P:=prog) (t:=105) (k:=.string ⟨#[58,109,101,116,104,111,100]⟩) underlying105 underlying9 rfl hsa.mb_ (i:=0) (v:=.pointer (some ⟨G,0,none⟩)) (by rfl) true
     have q2:=Zca (P:=prog) (t:=186) (k:=.string ⟨#[58,109,101,116,104,111,100]⟩) underlying186 underlying9 rfl hsa.sb_ (by rfl) (Zkf _) false
     obtain⟨W4,hW4⟩:=exl (putM (wr.alloc (.cells #[.string ⟨#[58,109,101,116,104,111,100]⟩,.string ⟨m.toArray⟩] 41)) w.heap.size (Zvq 1) 1)
     have q3:(Instr.mapUpdate 186 (.map (some w.heap.size)) (.string ⟨#[58,109,101,116,104,111,100]⟩) (.bool true)).run prog (wr.alloc (.cells #[.string ⟨#[58,109,101,116,104,111,100]⟩,.string ⟨m.toArray⟩] 41))=.ok () W4:=by
      rw[<-hW4]
      exact Za9 (P:=prog) underlying186 underlying9 rfl hsa.sb_ (by rfl) (.bool true)
     have hfl4:Blk W4 wr.heap.size 41 #[.string ⟨#[58,109,101,116,104,111,100]⟩,.string ⟨m.toArray⟩]:=by rw[<-hW4];exact hfl.putM hsa.sb_
     have hg4:Blk W4 G 25 (gC m p h a3 a4 0):=by rw[<-hW4];exact hsa.g.putM hsa.sb_
     have d1:=hfl4.cell 1
     have dl:=hfl4.lt
     have g4:=hg4.cell 0
     have gf:=hg4.frozen 0
     have gl:=hg4.lt
     have HP:=Hd (Tryz.strings_HasPrefix ⟨#[58,109,101,116,104,111,100]⟩ ⟨#[58]⟩ (wr.alloc (.cells #[.string ⟨#[58,109,101,116,104,111,100]⟩,.string ⟨m.toArray⟩] 41)))
     have HE:=Hd (Zr5 (i:=1) (x:=.string ⟨m.toArray⟩) hsa hW4 rfl rfl)
     clear hcl hba hsa hfl hW4 hfl4 hg4
     go_wp2_with fail
     refine Mo HP ?_
     rintro e w3 ⟨rfl,rfl⟩
     rw[show Lib.hasPrefix (ByteArray.mk #[58,109,101,116,104,111,100]).data.toList (ByteArray.mk #[58]).data.toList=true from rfl]
     go_wp2_with fail
     go_roundg (gk-1)
     case measure=>have:=HK.out;omega
     case rel=>exact⟨1,1,0,A,c2,by have:=HK.out;omega,rfl,rfl,rfl,HN.out,HE.out⟩
    ·have hj:j=1:=HJ.out
     subst hj
     obtain⟨c0,c1⟩:=hcl 1 (by simp)
     have hN0:N=0:=by have:=HN.out;simpa using this
     subst hN0
     have c0:wr.cell? ⟨b,off+2,none⟩=some (.string ⟨#[58,112,97,116,104]⟩):=c0
     have c1:wr.cell? ⟨b,off+2+1,none⟩=some (.string ⟨p.toArray⟩):=c1
     have hba:Below wr.heap.size wr (wr.alloc (.cells #[.string ⟨#[58,112,97,116,104]⟩,.string ⟨p.toArray⟩] 41)):=(Below.refl _ _).alloc (Nat.le_refl _) _
     have hsa:=HS.out.kept hba
     have hfl:=Blk.new wr 41 #[.string ⟨#[58,112,97,116,104]⟩,.string ⟨p.toArray⟩]
     have q1:=Zcr (P:=prog) (t:=105) (k:=.string ⟨#[58,112,97,116,104]⟩) underlying105 underlying9 rfl hsa.mb_ (i:=1) (v:=.pointer (some ⟨G,1,none⟩)) (by rfl) true
     have q2:=Zca (P:=prog) (t:=186) (k:=.string ⟨#[58,112,97,116,104]⟩) underlying186 underlying9 rfl hsa.sb_ (by rfl) (Zkf _) false
     obtain⟨W4,hW4⟩:=exl (putM (wr.alloc (.cells #[.string ⟨#[58,112,97,116,104]⟩,.string ⟨p.toArray⟩] 41)) w.heap.size (Zvq 2) 2)
     have q3:(Instr.mapUpdate 186 (.map (some w.heap.size)) (.string ⟨#[58,112,97,116,104]⟩) (.bool true)).run prog (wr.alloc (.cells #[.string ⟨#[58,112,97,116,104]⟩,.string ⟨p.toArray⟩] 41))=.ok () W4:=by
      rw[<-hW4]
      exact Za9 (P:=prog) underlying186 underlying9 rfl hsa.sb_ (by rfl) (.bool true)
     have hfl4:Blk W4 wr.heap.size 41 #[.string ⟨#[58,112,97,116,104]⟩,.string ⟨p.toArray⟩]:=by rw[<-hW4];exact hfl.putM hsa.sb_
     have hg4:Blk W4 G 25 (gC m p h a3 a4 1):=by rw[<-hW4];exact hsa.g.putM hsa.sb_
     have d1:=hfl4.cell 1
     have dl:=hfl4.lt
     have g4:=hg4.cell 1
     have gf:=hg4.frozen 1
     have gl:=hg4.lt
     have HP:=Hd (Tryz.strings_HasPrefix ⟨#[58,112,97,116,104]⟩ ⟨#[58]⟩ (wr.alloc (.cells #[.string ⟨#[58,112,97,116,104]⟩,.string ⟨p.toArray⟩] 41)))
     have HE:=Hd (Zr5 (i:=2) (x:=.string ⟨p.toArray⟩) hsa hW4 rfl rfl)
     clear hcl hba hsa hfl hW4 hfl4 hg4
     go_wp2_with fail
     refine Mo HP ?_
     rintro e w3 ⟨rfl,rfl⟩
     rw[show Lib.hasPrefix (ByteArray.mk #[58,112,97,116,104]).data.toList (ByteArray.mk #[58]).data.toList=true from rfl]
     go_wp2_with fail
     go_roundg (gk-1)
     case measure=>have:=HK.out;omega
     case rel=>exact⟨2,2,0,A,c2,by have:=HK.out;omega,rfl,rfl,rfl,HN.out,HE.out⟩
    ·have hj:j=2:=HJ.out
     subst hj
     obtain⟨c0,c1⟩:=hcl 2 (by simp)
     have hN0:N=0:=by have:=HN.out;simpa using this
     subst hN0
     have c0:wr.cell? ⟨b,off+4,none⟩=some (.string ⟨#[58,104,111,115,116]⟩):=c0
     have c1:wr.cell? ⟨b,off+4+1,none⟩=some (.string ⟨h.toArray⟩):=c1
     have hba:Below wr.heap.size wr (wr.alloc (.cells #[.string ⟨#[58,104,111,115,116]⟩,.string ⟨h.toArray⟩] 41)):=(Below.refl _ _).alloc (Nat.le_refl _) _
     have hsa:=HS.out.kept hba
     have hfl:=Blk.new wr 41 #[.string ⟨#[58,104,111,115,116]⟩,.string ⟨h.toArray⟩]
     have q1:=Zcr (P:=prog) (t:=105) (k:=.string ⟨#[58,104,111,115,116]⟩) underlying105 underlying9 rfl hsa.mb_ (i:=2) (v:=.pointer (some ⟨G,2,none⟩)) (by rfl) true
     have q2:=Zca (P:=prog) (t:=186) (k:=.string ⟨#[58,104,111,115,116]⟩) underlying186 underlying9 rfl hsa.sb_ (by rfl) (Zkf _) false
     obtain⟨W4,hW4⟩:=exl (putM (wr.alloc (.cells #[.string ⟨#[58,104,111,115,116]⟩,.string ⟨h.toArray⟩] 41)) w.heap.size (Zvq 3) 3)
     have q3:(Instr.mapUpdate 186 (.map (some w.heap.size)) (.string ⟨#[58,104,111,115,116]⟩) (.bool true)).run prog (wr.alloc (.cells #[.string ⟨#[58,104,111,115,116]⟩,.string ⟨h.toArray⟩] 41))=.ok () W4:=by
      rw[<-hW4]
      exact Za9 (P:=prog) underlying186 underlying9 rfl hsa.sb_ (by rfl) (.bool true)
     have hfl4:Blk W4 wr.heap.size 41 #[.string ⟨#[58,104,111,115,116]⟩,.string ⟨h.toArray⟩]:=by rw[<-hW4];exact hfl.putM hsa.sb_
     have hg4:Blk W4 G 25 (gC m p h a3 a4 2):=by rw[<-hW4];exact hsa.g.putM hsa.sb_
     have d1:=hfl4.cell 1
     have dl:=hfl4.lt
     have g4:=hg4.cell 2
     have gf:=hg4.frozen 2
     have gl:=hg4.lt
     have HP:=Hd (Tryz.strings_HasPrefix ⟨#[58,104,111,115,116]⟩ ⟨#[58]⟩ (wr.alloc (.cells #[.string ⟨#[58,104,111,115,116]⟩,.string ⟨h.toArray⟩] 41)))
     have HE:=Hd (Zr5 (i:=3) (x:=.string ⟨h.toArray⟩) hsa hW4 rfl rfl)
     clear hcl hba hsa hfl hW4 hfl4 hg4
     go_wp2_with fail
     refine Mo HP ?_
     rintro e w3 ⟨rfl,rfl⟩
     rw[show Lib.hasPrefix (ByteArray.mk #[58,104,111,115,116]).data.toList (ByteArray.mk #[58]).data.toList=true from rfl]
     go_wp2_with fail
     go_roundg (gk-1)
     case measure=>have:=HK.out;omega
     case rel=>exact⟨3,3,0,A,c2,by have:=HK.out;omega,rfl,rfl,rfl,HN.out,HE.out⟩
   ·have hj:j=3:=by have:=HJ.out;omega
    subst hj
    obtain⟨k3,rfl⟩:∃k3,k=k3+3:=⟨k-3,by omega⟩
    rw[Nat.add_sub_cancel]at HN HS
    have hlr:k3 < rest.length:=by omega
    have hge:((Zhg,m)::(Zi7,p)::(Zho,h)::rest)[k3+3]'(by simp;omega)=rest[k3]:=rfl
    obtain⟨c0,c1⟩:=hcl (k3+3) (by simp;omega)
    rw[hge]at c0 c1
    have hno:=HNO.out rest[k3] (List.getElem_mem hlr)
    have htk:rest.take (k3+1)=rest.take k3++[rest[k3]]:=List.take_succ_eq_append_getElem hlr
    have hNl:N<=100000:=by have:=HN.out;rw[List.length_take]at this;omega
    obtain⟨f,hfk⟩:=exl (rest[k3])
    rw[hfk]at c0 c1 hno htk
    obtain⟨f1,f2⟩:=f
    simp only at c0 c1 hno
    have hpn:=pre_no hno
    have HTK:=Hd htk
    have hba:Below wr.heap.size wr (wr.alloc (.cells #[.string ⟨f1.toArray⟩,.string ⟨f2.toArray⟩] 41)):=(Below.refl _ _).alloc (Nat.le_refl _) _
    have HSA:=Hd (HS.out.kept hba)
    have HO:=Hd (show(wr.alloc (.cells #[.string ⟨f1.toArray⟩,.string ⟨f2.toArray⟩] 41)).ownsRow w.heap.size 41 2 (.slice A N c2) N (fvs (rest.take k3))by have h9:=HSA.out.own;rwa [<-HN.out]at h9)
    have HP:=Hd (show CA 98 #[.string ⟨f1.toArray⟩,.string ⟨#[58]⟩] (wr.alloc (.cells #[.string ⟨f1.toArray⟩,.string ⟨f2.toArray⟩] 41)) fun e w'=>e=.returned (.bool false)/\w'=(wr.alloc (.cells #[.string ⟨f1.toArray⟩,.string ⟨f2.toArray⟩] 41))from by
     rw[<-hpn]
     exact Tryz.strings_HasPrefix ⟨f1.toArray⟩ ⟨#[58]⟩ _)
    have hki2:((k3+3:Nat):Int) < ((rest.length:Nat):Int)+3:=hki
    clear hcl hba hge hno hfk hpn htk hki
    go_wp2_with fail
    refine Mo HP ?_
    rintro e w3 ⟨rfl,rfl⟩
    go_wp2_with (at_builtin;refine Zd1 rfl _ _ rfl w.heap.size _ _ (rest.take k3) rfl HO.out (f1,f2) _ rfl (by simp) (by omega) (by simp;omega) ?_;intro A5 c5 w5 hown5 hg5 hv5 hb5;have HO5:=Hd hown5;have HG5:=Hd hg5;have HB5:=Hd hb5;clear hown5 hg5 hv5 hb5)
    go_roundg (gk-1)
    case measure=>have:=HK.out;omega
    case rel=>
     refine⟨k3+3+1,3,N+1,A5,c5,by have:=HK.out;omega,rfl,by go_num,(show 3=_ by omega),?_,?_⟩
     ·show N+1=_
      rw[show k3+3+1-3=k3+1 by omega,HTK.out,List.length_append,<-HN.out]
      rfl
     ·show PsSt _ _ _ _ _ _ _ _ _ _ _ _ _
      rw[show k3+3+1-3=k3+1 by omega,HTK.out]
      have ha:=HSA.out.kept ((Below.refl _ _).alloc (Nat.le_refl _) (.cells #[.string ⟨f1.toArray⟩,.string ⟨f2.toArray⟩] 41))
      have hgl:=HSA.out.gl
      have hne1:(Value.slice A N c2).ownBlock≠some G:=fun e=>by have:=(HSA.out.own.lt _ e).1;omega
      have hne2:(Value.slice A N c2).ownBlock≠some mb:=fun e=>by have:=(HSA.out.own.lt _ e).1;have:=HSA.out.ml;omega
      have hne3:(Value.slice A N c2).ownBlock≠some w.heap.size:=ha.sb_.own_ne ha.own
      refine⟨ha.g.grown HG5.out (fun e=>hne1 e.symm),(HG5.out.block mb ha.mb_.lt (fun e=>hne2 e.symm)).trans ha.mb_,(HG5.out.block w.heap.size ha.sb_.lt (fun e=>hne3 e.symm)).trans ha.sb_,?_,?_,ha.gl,ha.ml,ha.sl⟩
      ·rw[show(rest.take k3++[(f1,f2)]).length=N+1 by rw[List.length_append,<-HN.out];rfl]
       exact HO5.out
      ·exact HSA.out.bw.trans (Zac.of HB5.out)
  ·have hk2:k=rest.length+3:=by omega
   subst hk2
   have hj:j=3:=by have:=HJ.out;omega
   subst hj
   rw[Nat.add_sub_cancel,List.take_length]at HN HS
   have hN:=HN.out
   subst hN
   have hki:¬((rest.length:Nat):Int)+3 < ((rest.length:Nat):Int)+3:=by omega
   have q1:=Zj2 (P:=prog) 3 (t:=105) underlying105 HS.out.mb_
   have q2:=Zj2 (P:=prog) 3 (t:=186) underlying186 HS.out.sb_
   go_wp2
   go_ret2
   exact⟨A,c2,rfl,HS.out.own,HS.out.g,HS.out.bw⟩
theorem Z1h (a b:List UInt8):ByteArray.mk a.toArray++ByteArray.mk b.toArray=⟨(a++b).toArray⟩:=by rw[ByteArray.mk_append_mk];try simp
def ask1 (m p h:List UInt8)(fs:List Fld):List UInt8:=m++([32]++(p++([32,69,68,71,69,47,49]++([13,10]++([104,111,115,116,58,32]++(h++([13,10]++Zbg fs)))))))
theorem ask1_cat (m p h:List UInt8)(fs:List Fld):
  ByteArray.mk m.toArray++ByteArray.mk #[32]++ByteArray.mk p.toArray++ByteArray.mk #[32,69,68,71,69,47,49]++ByteArray.mk #[13,10]++ByteArray.mk #[104,111,115,116,58,32]++ByteArray.mk h.toArray++ByteArray.mk #[13,10]++ByteArray.mk (Zbg fs).toArray=⟨(ask1 m p h fs).toArray⟩:=by
 rw[show(ByteArray.mk #[32])=⟨([32]:List UInt8).toArray⟩from rfl,show(ByteArray.mk #[32,69,68,71,69,47,49])=⟨([32,69,68,71,69,47,49]:List UInt8).toArray⟩from rfl,show(ByteArray.mk #[13,10])=⟨([13,10]:List UInt8).toArray⟩from rfl,show(ByteArray.mk #[104,111,115,116,58,32])=⟨([104,111,115,116,58,32]:List UInt8).toArray⟩from rfl]
 simp only[Z1h]
 simp[ask1]
theorem Zlw (m p h:List UInt8)(fs:List Fld)(b:List UInt8):Zjt m p h fs b=ask1 m p h fs++(lenL b.length++[13,10])++b:=by
 unfold Zjt ask1 Zjz
 simp
theorem Zne.up {w w2 W:World}{v:Value}{l:List UInt8}(h:Zne w2 W v l)(hb:Below w.heap.size w w2):Zne w W v l:=by
 obtain⟨ad,c,h1,h2,h3,h4,h5,h6⟩:=h
 exact⟨ad,c,h1,h2,Nat.le_trans hb.size h3,h4,h5,hb.trans (h6.mono hb.size)⟩
theorem Zg9 (a b:List UInt8):∃c:List UInt8,ByteArray.mk a.toArray++ByteArray.mk b.toArray=⟨c.toArray⟩/\c.length=a.length+b.length/\a++b=c:=⟨_,Z1h a b,List.length_append,rfl⟩
theorem Zzt (m p h:List UInt8)(fs:List Fld)(b:List UInt8)(hE:Zf8 m p h fs b.length=0)(FA:Option Addr)(fn fc:Nat)(hfn:fn=fs.length)(BA:Option Addr)(bn bc:Nat)(hbn:bn=b.length)(w:World)(hP:Pow w)(hr:Zab w w.heap.size 2 FA fs.length (fvs fs))(hrb:Zab w w.heap.size 1 BA b.length (bs b)):
  CA 6 #[.agg (Zcf m p h FA fn fc BA bn bc)] w fun e w'=>∃v,e=.returned (.tuple #[v,.nilIface])/\Zne w w' v (Zjt m p h fs b):=by
 subst hfn
 subst hbn
 obtain⟨q1,q2,q3,q4,q5,q6,q7⟩:=Zdw hE
 have hgood:=Zdu fs q7
 have hsh:=Zg3 q1 hgood
 have hlen:=Zox m p h fs b (Zcv q3).2.1 (Zb1 q4).2.1 (Zbx q6) hsh q2
 have hlong:Zjm fs:=fun f hf=>by have:=hsh.2 f hf;omega
 obtain⟨W,hW⟩:=exl (w.alloc (.cells (Zcf m p h FA fs.length fc BA b.length bc) 25))
 have q:∀w1,Below W.heap.size W w1->w1.cell? ⟨w.heap.size,0,none⟩=some (.string ⟨m.toArray⟩)/\w1.cell? ⟨w.heap.size,1,none⟩=some (.string ⟨p.toArray⟩)/\w1.cell? ⟨w.heap.size,2,none⟩=some (.string ⟨h.toArray⟩)/\w1.cell? ⟨w.heap.size,3,none⟩=some (.slice FA fs.length fc)/\w1.cell? ⟨w.heap.size,4,none⟩=some (.slice BA b.length bc)/\w.heap.size < w1.heap.size/\Below w.heap.size w w1:=by
  intro w1 h1
  rw[<-hW]at h1
  have hb:=Blk.new w 25 (Zcf m p h FA fs.length fc BA b.length bc)
  have hb2:=hb.below h1 hb.lt
  have hba:Below w.heap.size w (w.alloc (.cells (Zcf m p h FA fs.length fc BA b.length bc) 25)):=(Below.refl _ _).alloc (Nat.le_refl _) _
  exact⟨hb2.cell 0,hb2.cell 1,hb2.cell 2,hb2.cell 3,hb2.cell 4,hb2.lt,hba.trans (h1.mono hba.size)⟩
 have HQ:=Hd q
 have HR:=Hd hr
 have HRB:=Hd hrb
 have HPW:=Hd hP
 have HSH:=Hd hsh
 have HLN:=Hd hlen
 have HBW:=HQ.out W (Below.refl _ _)
 have HC:=Hd (show CA 26 #[.agg (Zcf m p h FA fs.length fc BA b.length bc)] W fun e w'=>e=.returned .nilIface/\Below W.heap.size W w' from by
  have h0:=Zex m p h fs (by have:=(Zcv q3).2.1;omega) (by have:=(Zb1 q4).2.1;omega) (by have:=Zbx q6;omega) hlong (by omega) FA fs.length fc rfl BA b.length bc W ((hr.below HBW.2.2.2.2.2.2).more HBW.2.2.2.2.2.2.size)
  rw[hE]at h0
  exact h0)
 have HLI:=Hd (show∀w1,Below W.heap.size W w1->CA 27 #[.slice FA fs.length fc] w1 fun e w'=>e=.returned (.string ⟨(Zbg fs).toArray⟩)/\Below w1.heap.size w1 w' from fun w1 hb=>Zp4 fs hsh FA fs.length fc rfl w1 ((hr.below (q w1 hb).2.2.2.2.2.2).more (q w1 hb).2.2.2.2.2.2.size))
 obtain⟨d0,d1,d2,d3,d4,dl,-⟩:=HBW
 have hb8:=q2
 have hm4:=(Zcv q3).2.1
 have hp4:=(Zb1 q4).2.1
 have hh4:=Zbx q6
 have hl4:=Zgx fs hsh.2
 have hl5:(Zbg fs).length<=40000:=by have:=hsh.1;omega
 clear hl4
 clear hE hr hrb hP q hlong hsh hgood q1 q2 q3 q4 q5 q6 q7 hlen
 have HW:=Hd hW
 go_enter func6,ntmps6
 go_wp2_with fail
 refine Mo HC ?_
 rintro e w1 ⟨rfl,hb1⟩
 have HB1:=Hd hb1
 clear hb1 hW
 go_wp2_with fail
 refine Zd3 (fun w'=>Below W.heap.size W w') (by kernel_rfl) (by kernel_rfl) ?_ fun hne=> ?_
 ·exact HB1.out.drew
 have z0:∀x:WIn (fun w'=>Below W.heap.size W w'),x.w.cell? ⟨w.heap.size,0,none⟩=some (.string ⟨m.toArray⟩):=fun x=>(HQ.out _ x.h).1
 have z1:∀x:WIn (fun w'=>Below W.heap.size W w'),x.w.cell? ⟨w.heap.size,1,none⟩=some (.string ⟨p.toArray⟩):=fun x=>(HQ.out _ x.h).2.1
 have z2:∀x:WIn (fun w'=>Below W.heap.size W w'),x.w.cell? ⟨w.heap.size,2,none⟩=some (.string ⟨h.toArray⟩):=fun x=>(HQ.out _ x.h).2.2.1
 have z3:∀x:WIn (fun w'=>Below W.heap.size W w'),x.w.cell? ⟨w.heap.size,3,none⟩=some (.slice FA fs.length fc):=fun x=>(HQ.out _ x.h).2.2.2.1
 repeat (first | go_big_quiet_skip | (go_big_quiet_want;go_big_quiet_op;go_big_quiet_on))
 go_big_quiet_want
 go_big_quiet_op
 refine⟨_,fun x=>Zcg (HLI.out _ x.h) (fun e w9 h9=>⟨h9.1,x.h.trans (h9.2.mono x.h.size)⟩),?_⟩
 go_big_quiet_on
 repeat (first | go_big_quiet_skip | (go_big_quiet_want;go_big_quiet_op;go_big_quiet_on))
 refine wpQuiet_nil ?_
 intro w9 hw9
 obtain⟨x,rfl⟩:=hw9
 obtain⟨w2,hb2⟩:=x
 simp only
 clear z0 z1 z2 z3 hne
 rw[ask1_cat]
 obtain⟨d0,d1,d2,d3,d4,dl,hbw2⟩:=HQ.out w2 hb2
 have HB2:=Hd hb2
 have HP2:=Hd (HPW.out.next hbw2)
 have HRB2:=Hd ((HRB.out.below hbw2).more hbw2.size)
 have HBW2:=Hd hbw2
 have h1len:(ask1 m p h fs).length<=50000:=by
  have:=HLN.out
  rw[Zlw,List.length_append,List.length_append]at this
  omega
 clear hb2 hbw2
 rcases Nat.eq_zero_or_pos b.length with hb0 | hb0
 ·have hbn:b=[]:=List.eq_nil_of_length_eq_zero hb0
  subst hbn
  have hw:Zjt m p h fs []=ask1 m p h fs++[13,10]++[]:=by rw[Zlw];rfl
  obtain⟨s1,hs1⟩:=exl (ask1 m p h fs)
  rw[hs1]at hw h1len⊢
  have e2:ByteArray.mk s1.toArray++ByteArray.mk #[13,10]=⟨(s1++[13,10]).toArray⟩:=Z1h _ _
  have h2len:(s1++[13,10]).length<=60000:=by simp;omega
  obtain⟨s2,hs2⟩:=exl (s1++[13,10])
  rw[hs2]at hw e2 h2len
  obtain⟨cc,W5,hcv,hb5,v5,W6,hap,hfin⟩:=Zdj 23 w2 s2 BA bc [] HRB2.out (by simp;omega)
  have HFIN:=Hd hfin
  have HAP:=Hd hap
  have HWH:=Hd hw
  have c5:=(HQ.out W5 (HB2.out.trans (hb5.mono HB2.out.size))).2.2.2.2.1
  have l5:=(HQ.out W5 (HB2.out.trans (hb5.mono HB2.out.size))).2.2.2.2.2.1
  clear hw hs1 hs2 hfin hb5 hap
  go_wp2_with (at_builtin;refine wpList_append_run rfl _ _ _ rfl _ _ rfl rfl v5 W6 HAP.out ?_)
  go_ret2
  refine⟨_,rfl,?_⟩
  have h9:=HFIN.out
  rw[<-HWH.out]at h9
  exact h9.up HBW2.out
 ·have hw:Zjt m p h fs b=ask1 m p h fs++([108,101,110,103,116,104,58,32]++Lib.decDigits b.length++[13,10])++[13,10]++b:=by
   rw[Zlw]
   unfold lenL Zdf
   rw[if_neg (by omega)]
   simp
  obtain⟨s1,hs1⟩:=exl (ask1 m p h fs)
  rw[hs1]at hw h1len⊢
  have hdl:=Zs0 b.length 3 (by omega)
  have HI:=Hd (Zgz b.length (by omega) w2 HP2.out)
  obtain⟨D,hD⟩:=exl (Lib.decDigits b.length)
  rw[hD]at hw hdl HI
  obtain⟨t1,e1,n1,x1⟩:=Zg9 [108,101,110,103,116,104,58,32] D
  obtain⟨t2,e2,n2,x2⟩:=Zg9 t1 [13,10]
  obtain⟨t3,e3,n3,x3⟩:=Zg9 s1 t2
  obtain⟨t4,e4,n4,x4⟩:=Zg9 t3 [13,10]
  have E1:ByteArray.mk #[108,101,110,103,116,104,58,32]++ByteArray.mk D.toArray=⟨t1.toArray⟩:=e1
  have E2:ByteArray.mk t1.toArray++ByteArray.mk #[13,10]=⟨t2.toArray⟩:=e2
  have E4:ByteArray.mk t3.toArray++ByteArray.mk #[13,10]=⟨t4.toArray⟩:=e4
  rw[x1,x2,x3,x4]at hw
  simp only[List.length_cons,List.length_nil]at n1 n2 n4
  have l1:t1.length<=100:=by omega
  have l2:t2.length<=100:=by omega
  have l3:t3.length<=60000:=by omega
  have l4:t4.length<=60000:=by omega
  have hi0:(0:Int) < ((b.length:Nat):Int):=by omega
  have HWH:=Hd hw
  clear hw hs1 hD e1 e2 e4 n1 n2 n3 n4 x1 x2 x3 x4
  go_wp2_with fail
  refine Mo HI ?_
  rintro e w3 ⟨rfl,hb3⟩
  have HB3:=Hd (HB2.out.trans (hb3.mono HB2.out.size))
  obtain⟨d0,d1,d2,d3,d4,dl,hbw3⟩:=HQ.out w3 HB3.out
  have HBW3:=Hd hbw3
  obtain⟨cc,W5,hcv,hb5,v5,W6,hap,hfin⟩:=Zdj 23 w3 t4 BA bc b ((HRB.out.below hbw3).more hbw3.size) (by omega)
  have HFIN:=Hd hfin
  have HAP:=Hd hap
  have c5:=(HQ.out W5 (HB3.out.trans (hb5.mono HB3.out.size))).2.2.2.2.1
  have l5:=(HQ.out W5 (HB3.out.trans (hb5.mono HB3.out.size))).2.2.2.2.2.1
  clear hb3 hbw3 hfin hb5 hap
  go_wp2_with (at_builtin;refine wpList_append_run rfl _ _ _ rfl _ _ rfl rfl v5 W6 HAP.out ?_)
  go_ret2
  refine⟨_,rfl,?_⟩
  have h9:=HFIN.out
  rw[<-HWH.out]at h9
  exact h9.up HBW3.out
def Zds (l:List UInt8):Bool:=l==[99,111,110,110,101,99,116,105,111,110] || (l==[99,111,100,105,110,103] || (l==[107,101,101,112] || l==[117,112,103,114,97,100,101]))
theorem Ztl (l:List UInt8)(w:World):
  CA 48 #[.string ⟨l.toArray⟩] w fun e w'=>e=.returned (.bool (Zds l))/\w=w':=by
 obtain⟨a,ha⟩:=exl ((l==[99,111,110,110,101,99,116,105,111,110]))
 obtain⟨b,hb⟩:=exl ((l==[99,111,100,105,110,103]))
 obtain⟨c,hc⟩:=exl ((l==[107,101,101,112]))
 obtain⟨d,hd⟩:=exl ((l==[117,112,103,114,97,100,101]))
 have HE:=Hd (show Zds l=(a || (b || (c || d)))by rw[<-ha,<-hb,<-hc,<-hd];rfl)
 cases a <;> cases b <;> cases c <;> cases d <;>(go_enter func48,ntmps48;go_wp2;go_ret;exact⟨by rw[HE.out];rfl,rfl⟩)
def tot (l:List Fld):Nat:=(l.map fun f=>f.2.length+2).sum
theorem Ziz (a b:List Fld):tot (a++b)=tot a+tot b:=by simp[tot]
theorem Znl :∀(l:List Fld),∀f∈l,f.2.length<=tot l
 | g::l,f,hf=>by
  have e:tot (g::l)=g.2.length+2+tot l:=by simp[tot]
  rcases List.mem_cons.1 hf with rfl | hf
  ·omega
  ·have:=Znl l f hf;omega
theorem Zx6 :∀(l:List Fld) (i:Nat) (x:List UInt8),tot (Zf2 l i x)<=tot l+(x.length+2)
 | [],_,_=>by simp[Zf2,tot]
 | f::l,0,x=>by simp[Zf2,tot,Zrx];omega
 | f::l,i+1,x=>by
  have:=Zx6 l i x
  show tot (f::Zf2 l i x)<=_
  have e1:tot (f::Zf2 l i x)=f.2.length+2+tot (Zf2 l i x):=by simp[tot]
  have e2:tot (f::l)=f.2.length+2+tot l:=by simp[tot]
  omega
theorem tot_accF (a:Acc)(f:Fld):tot (Zl2 a f).l<=tot a.l+(f.2.length+2):=by
 unfold Zl2
 split
 ·split
  ·exact Zx6 _ _ _
  ·simp only[Ziz];simp[tot]
 ·simp only[Ziz];simp[tot]
theorem Zt4 :∀(l:List Fld) (a:Acc),tot (Zke a l).l<=tot a.l+tot l
 | [],a=>by simp[Zke,tot]
 | f::l,a=>by
  have h1:=Zt4 l (Zl2 a f)
  have h2:=tot_accF a f
  have e:tot (f::l)=f.2.length+2+tot l:=by simp[tot]
  show tot (Zke (Zl2 a f) l).l<=_
  omega
theorem Zlz :∀(l:List Fld) (i:Nat) (x:List UInt8),(Zf2 l i x).map Prod.fst=l.map Prod.fst
 | [],_,_=>rfl
 | f::l,0,x=>rfl
 | f::l,i+1,x=>by show f.1::(Zf2 l i x).map Prod.fst=_;rw[Zlz l i x];rfl
theorem Znb (P:List UInt8->Prop):∀(l:List Fld) (a:Acc),(∀f∈a.l,P f.1)->(∀f∈l,P f.1)->∀f∈(Zke a l).l,P f.1
 | [],a,ha,_=>ha
 | f::l,a,ha,hl=>by
  refine Znb P l (Zl2 a f) ?_ fun g hg=>hl g (List.mem_cons_of_mem _ hg)
  have hf:=hl f (List.mem_cons_self ..)
  unfold Zl2
  split
  ·split
   ·rename_i i _
    intro g hg
    have h1:g.1∈(Zf2 a.l i f.2).map Prod.fst:=List.mem_map.2 ⟨g,hg,rfl⟩
    rw[Zlz]at h1
    obtain⟨g2,hg2,e⟩:=List.mem_map.1 h1
    rw[<-e]
    exact ha g2 hg2
   ·intro g hg
    rcases List.mem_append.1 hg with h | h
    ·exact ha g h
    ·rw[List.mem_singleton.1 h];exact hf
  ·intro g hg
   rcases List.mem_append.1 hg with h | h
   ·exact ha g h
   ·rw[List.mem_singleton.1 h];exact hf
theorem accF_len (a:Acc)(f:Fld):(Zl2 a f).l.length<=a.l.length+1:=by
 unfold Zl2
 split
 ·split
  ·simp only[Ziv];omega
  ·simp
 ·simp
theorem Zvf :∀(l:List Fld) (a:Acc),(Zke a l).l.length<=a.l.length+l.length
 | [],a=>by simp[Zke]
 | f::l,a=>by
  have h1:=Zvf l (Zl2 a f)
  have h2:=accF_len a f
  show(Zke (Zl2 a f) l).l.length<=_
  simp only[List.length_cons]
  omega
def ckOk (a:Acc):Prop:=∀i,a.ck=some i->i < a.l.length
theorem Z1a (a:Acc)(f:Fld)(h:ckOk a):ckOk (Zl2 a f):=by
 unfold Zl2
 split
 ·split
  ·rename_i i hi
   intro j hj
   cases hj
   simp only[Ziv]
   exact h i hi
  ·intro j hj
   cases hj
   simp
 ·intro j hj
  have:=h j hj
  simp
  omega
theorem Zq1 :∀(l:List Fld) (a:Acc),ckOk a->ckOk (Zke a l)
 | [],_,h=>h
 | f::l,a,h=>Zq1 l (Zl2 a f) (Z1a a f h)
def ckV :Option Nat->Value
 | none=> .int .i64 (-1)
 | some i=> .int .i64 ((i:Nat):Int)
theorem Z1y (a:Acc)(l:List Fld){k:Nat}(h:k < l.length):Zke a (l.take (k+1))=Zl2 (Zke a (l.take k)) l[k]:=by
 rw[List.take_succ_eq_append_getElem h,Ztn]
 rfl
theorem Zrc :∀(l:List Fld) (i:Nat) (x:List UInt8) (h:i < l.length),fvs (Zf2 l i x)=(fvs l).set (i*2+1) (.string ⟨(l[i].2++(Zrx++x)).toArray⟩)
 | f::l,0,x,h=>rfl
 | f::l,i+1,x,h=>by
  show fvs (f::Zf2 l i x)=_
  rw[Zc5,Zc5,Zrc l i x (by simpa using h)]
  rw[show(i+1)*2+1=(i*2+1)+1+1 by omega]
  rfl
def FaPost (w:World)(m p h:List UInt8)(rest:List Fld)(b:List UInt8)(e:Ending)(w':World):Prop:=
 Below w.heap.size w w'/\
 if rest.any (fun f=>Zds f.1)=true∨Zf8 m p h (Zke ⟨[],none⟩ rest).l b.length≠0 then∃t u,e=.returned (.tuple #[.agg #[.string ⟨#[]⟩,.string ⟨#[]⟩,.string ⟨#[]⟩,.slice none 0 0,.slice none 0 0],.iface t u])
 else∃FA fc BA bc,e=.returned (.tuple #[.agg (Zcf m p h FA (Zke ⟨[],none⟩ rest).l.length fc BA b.length bc),.nilIface])/\
  w'.ownsRow w.heap.size 41 2 (.slice FA (Zke ⟨[],none⟩ rest).l.length fc) (Zke ⟨[],none⟩ rest).l.length (fvs (Zke ⟨[],none⟩ rest).l)/\
  w'.ownsRow w.heap.size 5 1 (.slice BA b.length bc) b.length (bs b)
theorem Zsg {w w':World}{g:Nat}(h:Zac w.heap.size g w w'):Zax (fun k=>k=g) w w':=⟨h.os,h.tape,h.output,h.size,fun k hk hs=>h.block k hk hs⟩
theorem Zza {w:World}{base size n g cap j:Nat}{e:TypeId}{xs:List Value}(h:w.ownsRow base e size (.slice (some ⟨g,0,none⟩) n cap) n xs)(hj:j < n*size)(u:Value):(w.setCell ⟨g,j,none⟩ u).ownsRow base e size (.slice (some ⟨g,0,none⟩) n cap) n (xs.set j u):=by
 refine⟨by rw[List.length_set];exact h.1,?_⟩
 rcases h.2 with⟨hv,_⟩ | ⟨g',cap',cur,hv,hB,hh,hc,hm,hs,hx⟩
 ·cases hv
 ·cases hv
  refine .inr ⟨g,cap,cur.setIfInBounds j u,rfl,hB,?_,hc,hm,by simpa using hs,?_⟩
  ·simp[World.setCell,Array.getElem?_modify,hh]
  ·rw[<-hx,Array.toList_setIfInBounds,List.take_set]
theorem Zv5 {w:World}{base size n g cap:Nat}{e:TypeId}{xs:List Value}(h:w.ownsRow base e size (.slice (some ⟨g,0,none⟩) n cap) n xs)(j:Nat):w.frozen? ⟨g,j,none⟩=false/\g < w.heap.size:=by
 rcases h.2 with⟨hv,_⟩ | ⟨g',cap',cur,hv,hB,hh,hc,hm,hs,hx⟩
 ·cases hv
 ·cases hv
  exact⟨Blk.frozen (t:=e) (cs:=cur) hh j,Blk.lt (t:=e) (cs:=cur) hh⟩
theorem Zb3 {P:Program}{fn:Func}{p u:Tmp}{ty:TypeId}(h:fn.results= #[.cell p ty,.tmp u])(tmps:Array Value)(w:World)(g:Nat)(t:TypeId)(cs:Array Value)(d:TypeDesc)
  (hp:tmps.getD p undef=.pointer (some ⟨g,0,none⟩)) (hg:Blk w g t cs)
  (hu:P.underlying ty=some d) (hd:(match d with | .struct _ | .array _ _=>true | _=>false)=true) (hi:(P.info? ty).map (·.size)=some cs.size):
  (results fn tmps).run P w=.ok (.tuple #[.agg cs,tmps.getD u undef]) w:=by
 have hp':tmps[p]?.getD undef=.pointer (some ⟨g,0,none⟩):=by simpa using hp
 simp[results,h,hp',asAddr,run_loadVar_row w g t ty cs (0,0) d hg hu hd hi]
structure Zvh (w w2 wr:World)(G:Nat)(m p h:List UInt8)(v3 bv:Value)(b:List UInt8)(xs:List Fld):Prop where
 g:Blk wr G 25 #[.string ⟨m.toArray⟩,.string ⟨p.toArray⟩,.string ⟨h.toArray⟩,v3,bv]
 own:wr.ownsRow w2.heap.size 41 2 v3 xs.length (fvs xs)
 ob:wr.ownsRow w.heap.size 5 1 bv b.length (bs b)
 bw:Zac w2.heap.size G w2 wr
 gl:G < w2.heap.size
 bl:∀k,bv.ownBlock=some k->k < w2.heap.size
theorem Zvh.kept {w w2 wr w1:World}{G:Nat}{m p h:List UInt8}{v3 bv:Value}{b:List UInt8}{xs:List Fld}(H:Zvh w w2 wr G m p h v3 bv b xs)(hb:Below wr.heap.size wr w1):Zvh w w2 w1 G m p h v3 bv b xs:=
 ⟨H.g.below hb H.g.lt,Za3 H.own (Zax.of_below (S:=fun _=>False) hb) (fun _ _ h=>h),Za3 H.ob (Zax.of_below (S:=fun _=>False) hb) (fun _ _ h=>h),H.bw.trans (Zac.of (hb.mono H.bw.size)),H.gl,H.bl⟩
theorem Zvh.put {w w2 wr:World}{G:Nat}{m p h:List UInt8}{v3 v4 bv:Value}{b:List UInt8}{xs ys:List Fld}{W:World}(H:Zvh w w2 wr G m p h v3 bv b xs)(hg:wr.grownBy W v3.ownBlock)(hown:W.ownsRow w2.heap.size 41 2 v4 ys.length (fvs ys)):
  Zvh w w2 (W.setCell ⟨G,3,none⟩ v4) G m p h v4 bv b ys/\W.cell? ⟨G,3,none⟩=some v3/\W.frozen? ⟨G,3,none⟩=false/\G < W.heap.size:=by
 have hn1:v3.ownBlock≠some G:=Zao H.own H.g (by decide)
 have hn2:bv.ownBlock≠some G:=Zao H.ob H.g (by decide)
 have hgW:Blk W G 25 #[.string ⟨m.toArray⟩,.string ⟨p.toArray⟩,.string ⟨h.toArray⟩,v3,bv]:=H.g.grown hg (fun e=>hn1 e.symm)
 have hobW:W.ownsRow w.heap.size 5 1 bv b.length (bs b):=H.ob.kept hg (by
  cases hv:bv.ownBlock with
  | none=>exact .inl rfl
  | some k=>
   right
   intro e
   have h1:=H.bl k hv
   have h2:=(H.own.lt k (by rw[<-e])).1
   omega)
 have hbW:Zac w2.heap.size G w2 W:=H.bw.trans ⟨hg.os,hg.tape,hg.output,hg.size,fun k hk _=>hg.block k (Nat.lt_of_lt_of_le hk H.bw.size) (fun e=>by have:=(H.own.lt k e.symm).1;omega)⟩
 refine⟨⟨?_,Zb5 hown (p:=⟨G,3,none⟩) H.gl v4,?_,hbW.setCell (p:=⟨G,3,none⟩) (.inl rfl) v4,H.gl,H.bl⟩,hgW.cell 3,hgW.frozen 3,hgW.lt⟩
 ·simpa using hgW.set_ 3 v4
 ·exact hobW.kept (row:=some G) ⟨rfl,rfl,rfl,by simp[World.setCell],fun k _ hk=>Below.heap_setCell _ _ _ _ (fun e=>hk (by simp[e]))⟩ (.inr hn2)
theorem Zvh.at_ {w w2 wr:World}{G g cap:Nat}{m p h:List UInt8}{bv:Value}{b:List UInt8}{xs:List Fld}(H:Zvh w w2 wr G m p h (.slice (some ⟨g,0,none⟩) xs.length cap) bv b xs)(i:Nat)(hi:i < xs.length)(x:List UInt8):
  Zvh w w2 (wr.setCell ⟨g,i*2+1,none⟩ (.string ⟨(xs[i].2++(Zrx++x)).toArray⟩)) G m p h (.slice (some ⟨g,0,none⟩) (Zf2 xs i x).length cap) bv b (Zf2 xs i x):=by
 have hgB:=(H.own.lt g rfl).1
 have hgG:g≠G:=by have:=H.gl;omega
 refine⟨by rw[Ziv];exact H.g.far (fun e=>hgG e.symm) _,?_,?_,H.bw.setCell (p:=⟨g,i*2+1,none⟩) (.inr hgB) _,H.gl,H.bl⟩
 ·rw[Ziv,Zrc xs i x hi]
  exact Zza H.own (by omega) _
 ·refine H.ob.kept (row:=some g) ⟨rfl,rfl,rfl,by simp[World.setCell],fun k _ hk=>Below.heap_setCell _ _ _ _ (fun e=>hk (by simp[e]))⟩ (.inr fun e=> ?_)
  have:=H.bl g e
  omega
end
end Go.Proofs.YtbgnggkgmeagkaaGreatDoor
