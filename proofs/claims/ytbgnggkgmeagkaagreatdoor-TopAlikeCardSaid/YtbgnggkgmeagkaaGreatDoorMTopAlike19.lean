/-
  A part of the proof of TopAlike: each theorem states its own conditions.
-/
import Derived.Test.YtbgnggkgmeagkaaGreatDoorMTopAlike18
import Derived.Maps.RangeRun
import Derived.Laws.IdiomRangeMap
set_option linter.unusedSimpArgs false
set_option linter.unusedVariables false
set_option maxRecDepth 100000
set_option maxHeartbeats 16000000
namespace Go.Proofs.YtbgnggkgmeagkaaGreatDoor
open Go.Proofs.Tryz
section
open Go.RowKit
def Zay (n:Int)(q:Value)(waits:Bool)(reply:Value)(got:Bool)(body:Value)(whole:Bool):Array Value:=
 #[.int .i64 n,q,.bool waits,reply,.bool got,body,.bool whole,.bool false]
def Zaw (v:Value):Array MapEntry:= #[⟨.int .i64 1,v,0⟩]
theorem Sep.look_call {w:World}{L:List Zae}{i M X c:Nat}(h:Sep w L)(hi:L[i]? =some (Zak M (Zaw (.pointer (some ⟨X,0,none⟩))) c))(ok:Bool):
  (Instr.lookup 121 (.map (some M)) (.int .i64 1) ok).run prog w=.ok (if ok then .tuple #[.pointer (some ⟨X,0,none⟩),.bool true]else .pointer (some ⟨X,0,none⟩)) w:=
 Zcr (P:=prog) (t:=121) (k:=.int .i64 1) underlying121 underlying3 rfl (h.map_ hi) (i:=0) (by rfl) ok
theorem cp_fn {w:World}{L:List Zae}{i1 i2 i3 X K M Y c:Nat}{C:Nat}{ord inn out part:Value}{win last on:Int}{ends:Bool}{n:Int}{q reply body:Value}{got whole:Bool}(h:Sep w L)(h1:L[i1]? =some (Zaa X 52 #[.pointer (some ⟨K,0,none⟩)]))
  (h2:L[i2]? =some (Zaa K 126 (Zau C M ord inn out win last part on ends))) (h3:L[i3]? =some (Zak M (Zaw (.pointer (some ⟨Y,0,none⟩))) c)) {i4:Nat} (h4:L[i4]? =some (Zaa Y 130 (Zay n q false reply got body whole))):
  CA 109 #[.int .i64 1,.pointer (some ⟨X,0,none⟩)] w fun e w'=>e=.returned (.bool true)/\w=w':=by
 have k1:=h.at_ h1
 have k2:=h.at_ h2
 have k4:=h.at_ h4
 have q:=h.look_call h3 false
 unfold Zau at k2
 unfold Zay at k4
 clear h h1 h2 h3 h4
 go_enter func109,ntmps109
 go_wp2
 go_ret
 exact⟨rfl,rfl⟩
theorem Zcy {w:World}{L:List Zae}{i b o n k:Nat}{t:TypeId}{cs:Array Value}(h:Sep w L)(hi:L[i]? =some (Zaa b t cs))(hc:cs[o]? =some (.int .i64 (n:Int)))(hk:k<=n)(hn:n<=2147483647):
  CA 107 #[.pointer (some ⟨b,o,none⟩),.int .i64 (k:Int)] w fun e w'=>e=.returned .nilIface/\Sep w' (L.set i (Zaa b t (cs.setIfInBounds o (.int .i64 ((n-k:Nat):Int))))):=by
 refine(fl_take b o n k hk hn w (((h.blk hi).cell o).trans hc) ((h.blk hi).frozen o)).mono ?_
 rintro e w' ⟨rfl,rfl⟩
 exact⟨rfl,h.set_ hi o _⟩
theorem Sep.drewN {w:World}{L:List Zae}(h:Sep w L)(n:Nat):Sep (w.drewN n) L:=⟨fun a ha=>⟨a.loc (fun _=>False) w (w.drewN n) ((Zax.refl _ w).drewN n) (fun _ _ h=>h) (h.all a ha).2 (h.all a ha).1,(h.all a ha).2⟩,h.apart⟩
def dataF :Frm:=⟨0,1,1,[120]⟩
theorem Zj9 :Zeq dataF=0/\Zbh dataF=[0,0,1,0,1,0,0,0,1,120]:=by decide
theorem min_one (w:World):(Builtin.min_ #[3,3,3,3] 3 #[.int .i64 1,.int .i64 1024,.int .i64 2000,.int .i64 2000]).run prog w=.ok (.int .i64 1) w:=by kernel_rfl
def CpSt (bx kb C M X n c oc qc og qg:Nat)(A:Option Addr)(xs:List UInt8)(F:List Zae)(k:Nat)(wr:World):Prop:=
 (k=0/\Sep wr (Zaa bx 52 #[.pointer (some ⟨kb,0,none⟩)]::Zaa kb 126 (Zau C M (.slice (some ⟨og,0,none⟩) 1 oc) (.slice none 0 0) (.slice A n c) 2000 1 (.slice none 0 0) 0 false)::Zad 5 1 (.slice A n c) n (bs xs)::
   Zad 3 1 (.slice (some ⟨og,0,none⟩) 1 oc) 1 [.int .i64 1]::Zak M (Zaw (.pointer (some ⟨X,0,none⟩))) 1::Zaa X 130 (Zay 2000 (.slice (some ⟨qg,0,none⟩) 1 qc) true (.slice none 0 0) false (.slice none 0 0) false)::Zad 5 1 (.slice (some ⟨qg,0,none⟩) 1 qc) 1 (bs [120])::F))∨
 (k=1/\∃Q' A' c',Sep wr (Zaa kb 126 (Zau C M (.slice (some ⟨og,0,none⟩) 1 oc) (.slice none 0 0) (.slice A' (n+10) c') 1999 1 (.slice none 0 0) 0 false)::Zad 5 1 (.slice A' (n+10) c') (n+10) (bs (xs++[0,0,1,0,1,0,0,0,1,120]))::Zaa bx 52 #[.pointer (some ⟨kb,0,none⟩)]::
   Zad 3 1 (.slice (some ⟨og,0,none⟩) 1 oc) 1 [.int .i64 1]::Zak M (Zaw (.pointer (some ⟨X,0,none⟩))) 1::Zaa X 130 (Zay 1999 Q' false (.slice none 0 0) false (.slice none 0 0) false)::Zad 5 1 (.slice (some ⟨qg,0,none⟩) 1 qc) 1 (bs [120])::F))
theorem cp_one {w:World}{F:List Zae}{kb C M X n c oc qc:Nat}{A OA QA:Option Addr}{xs:List UInt8}(hn:n<=10000)(h:Sep w (Zaa kb 126 (Zau C M (.slice OA 1 oc) (.slice none 0 0) (.slice A n c) 2000 1 (.slice none 0 0) 0 false)::Zad 5 1 (.slice A n c) n (bs xs)::
   Zad 3 1 (.slice OA 1 oc) 1 [.int .i64 1]::Zak M (Zaw (.pointer (some ⟨X,0,none⟩))) 1::Zaa X 130 (Zay 2000 (.slice QA 1 qc) true (.slice none 0 0) false (.slice none 0 0) false)::Zad 5 1 (.slice QA 1 qc) 1 (bs [120])::F)):
  CA 58 #[.pointer (some ⟨kb,0,none⟩)] w fun e w'=>e=.returned (.tuple #[])/\∃A' c' Q',Sep w' (Zaa kb 126 (Zau C M (.slice OA 0 oc) (.slice none 0 0) (.slice A' (n+10) c') 1999 1 (.slice none 0 0) 0 false)::Zad 5 1 (.slice A' (n+10) c') (n+10) (bs (xs++[0,0,1,0,1,0,0,0,1,120]))::
   Zad 3 1 (.slice OA 0 oc) 0 []::Zak M (Zaw (.pointer (some ⟨X,0,none⟩))) 1::Zaa X 130 (Zay 1999 Q' false (.slice none 0 0) false (.slice none 0 0) false)::Zad 5 1 (.slice QA 1 qc) 1 (bs [120])::F):=by
 obtain⟨og,rfl,o0,-,-,-⟩:=Zeh h (i:=2) rfl
 obtain⟨qg,rfl,-,-,-,hqc⟩:=Zeh h (i:=5) rfl
 have hnKX:=h.ne_ (i:=0) (i':=4) rfl rfl (by decide)
 have hnXK:=Ne.symm hnKX
 have h1:=h.newBlk 52 #[.pointer (some ⟨kb,0,none⟩)]
 have kX:=h1.at_ (i:=0) rfl
 have kK:=h1.at_ (i:=1) rfl
 have k4:=h1.at_ (i:=5) rfl
 have o1:=Zaj ((Below.refl w.heap.size w).alloc (Nat.le_refl _) (.cells #[.pointer (some ⟨kb,0,none⟩)] 52)) o0
 have q:=h1.look_call (i:=4) rfl false
 have H1:=Hd h1
 have qm:=min_one
 have HO:=Hd (show CpSt w.heap.size kb C M X n c oc qc og qg A xs F 0 _ from .inl ⟨rfl,h1⟩)
 unfold Zau at kK
 unfold Zay at k4
 clear h h1 o0
 go_enter func58,ntmps58
 go_wp2
 refine wp_loop_rounds 2 ?_
 rw[rounds_succ]
 go_wp2
 clear kX kK k4 o1 q H1
 go_loopg [7] 1 (fun mm v7 wr=>∃k,mm+k=1/\Hid (CpSt w.heap.size kb C M X n c oc qc og qg A xs F k wr))
 case atStart=>exact⟨0,rfl,HO⟩
 case round=>
  clear HO
  obtain⟨k,hk,HS⟩:=hrel
  obtain⟨rfl,h1⟩ | ⟨rfl,Q',A',c',h6⟩:=HS.out
  ·have kX:=h1.at_ (i:=0) rfl
   have kK:=h1.at_ (i:=1) rfl
   have k4:=h1.at_ (i:=5) rfl
   have H1:=Hd h1
   unfold Zau at kK
   unfold Zay at k4
   clear h1 HS
   go_wp2
   go_quiet (first
    | (go_at_call 106;refine Calls.quiet_of_same (Ze0 ⟨kb,5,none⟩ 2000 _ ?_);exact kK.1 5)
    | (go_at_call 106;refine Calls.quiet_of_same (Ze0 ⟨X,0,none⟩ 2000 _ ?_);exact k4.1 0))
   have H2:=Hd (H1.out.drewN nq)
   clear H1 kX kK k4 qm
   have kX:=H2.out.at_ (i:=0) rfl
   have kK:=H2.out.at_ (i:=1) rfl
   have k4:=H2.out.at_ (i:=5) rfl
   unfold Zau at kK
   unfold Zay at k4
   go_wp2_with fail
   refine(Zcy H2.out (i:=1) (b:=kb) (o:=5) (n:=2000) (k:=1) rfl rfl (by decide) (by decide)).mono ?_
   rintro e w3 ⟨rfl,h3⟩
   change Sep w3 (_::Zaa kb _ (Zau C M (.slice (some ⟨og,0,none⟩) 1 oc) (.slice none 0 0) (.slice A n c) 1999 1 (.slice none 0 0) 0 false)::_)at h3
   have H3:=Hd h3
   clear kX kK k4
   have kX:=h3.at_ (i:=0) rfl
   have k4:=h3.at_ (i:=5) rfl
   unfold Zay at k4
   clear h3 H2
   go_wp2_with fail
   refine(Zcy H3.out (i:=5) (b:=X) (o:=0) (n:=2000) (k:=1) rfl rfl (by decide) (by decide)).mono ?_
   rintro e w4 ⟨rfl,h4⟩
   change Sep w4 (_::_::_::_::_::Zaa X _ (Zay 1999 (.slice (some ⟨qg,0,none⟩) 1 qc) true (.slice none 0 0) false (.slice none 0 0) false)::_)at h4
   have k4:=h4.at_ (i:=5) rfl
   have kK:=h4.at_ (i:=1) rfl
   have kX:=h4.at_ (i:=0) rfl
   have n1:X≠w.heap.size:=h4.ne_ (i:=5) (i':=0) rfl rfl (by decide)
   have n2:w.heap.size≠X:=Ne.symm n1
   have H4:=Hd h4
   unfold Zau at kK
   unfold Zay at k4
   clear h4 H3
   by_cases hq1:qc=1
   ·subst hq1
    go_wp2_with fail
    have h5:=(H4.out.set_ (i:=5) rfl 1 (.slice (some ⟨qg,0,none⟩) 0 0)).set_ (i:=5) rfl 2 (.bool false)
    change Sep _ (_::_::_::_::_::Zaa X _ (Zay 1999 (.slice (some ⟨qg,0,none⟩) 0 0) false (.slice none 0 0) false (.slice none 0 0) false)::_)at h5
    have HR:=Hd (Zag h5 (i:=6) rfl)
    refine(csay dataF Zj9.1 (some ⟨qg,0,none⟩) 1 HR.out kb (xs:=xs) (by omega) ((h5.front 2 rfl).front 2 rfl)).mono ?_
    rintro e w6 ⟨rfl,A',c',h6⟩
    rw[Zj9.2]at h6
    have H6:=Hd (show CpSt _ kb C M X n c oc 1 og qg A xs F 1 w6 from .inr ⟨rfl,_,A',c',h6⟩)
    clear h6 h5 H4 HR
    go_wp2
    go_roundg (gk-1)
    case measure=>omega
    case rel=>exact⟨1,by omega,H6.out⟩
   ·go_wp2_with fail
    have h5:=(H4.out.set_ (i:=5) rfl 1 (.slice (some ⟨qg,1,none⟩) 0 (qc-1))).set_ (i:=5) rfl 2 (.bool false)
    change Sep _ (_::_::_::_::_::Zaa X _ (Zay 1999 (.slice (some ⟨qg,1,none⟩) 0 (qc-1)) false (.slice none 0 0) false (.slice none 0 0) false)::_)at h5
    have HR:=Hd (Zag h5 (i:=6) rfl)
    refine(csay dataF Zj9.1 (some ⟨qg,0,none⟩) qc HR.out kb (xs:=xs) (by omega) ((h5.front 2 rfl).front 2 rfl)).mono ?_
    rintro e w6 ⟨rfl,A',c',h6⟩
    rw[Zj9.2]at h6
    have H6:=Hd (show CpSt _ kb C M X n c oc qc og qg A xs F 1 w6 from .inr ⟨rfl,_,A',c',h6⟩)
    clear h6 h5 H4 HR
    go_wp2
    go_roundg (gk-1)
    case measure=>omega
    case rel=>exact⟨1,by omega,H6.out⟩
  ·have k4:=h6.at_ (i:=5) rfl
   have kK:=h6.at_ (i:=0) rfl
   have kX:=h6.at_ (i:=2) rfl
   have H7:=Hd (h6.drew.front 3 rfl)
   unfold Zau at kK
   unfold Zay at k4
   clear h6 HS qm
   go_wp2
   rw[rounds_succ]
   go_wp2
   have HF:=Hd (cp_fn H7.out (i1:=3) (i2:=1) (i3:=4) (i4:=5) rfl rfl rfl rfl)
   go_region_with (go_at_call 108;refine(Zqs H7.out HF.out).mono ?_;rintro e w8 ⟨rfl,h8⟩;change Sep w8 (Zad _ 1 _ 0 []::Zaa kb _ _::_)at h8;have kK8:=h8.at_ (i:=1) rfl;have kX8:=h8.at_ (i:=3) rfl;have H8:=Hd h8;unfold Zau at kK8;clear h8)
   all_goals
    go_wp2
    refine bodyPost_end (results_none rfl _ _ _) rfl ?_
    refine⟨rfl,A',c',Q',?_⟩
    have h9:=H8.out.set_ (i:=1) rfl 2 (.slice (some ⟨og,0,none⟩) 0 oc)
    change Sep _ (Zad _ 1 _ 0 []::Zaa kb _ (Zau C M (.slice (some ⟨og,0,none⟩) 0 oc) (.slice none 0 0) (.slice A' (n+10) c') 1999 1 (.slice none 0 0) 0 false)::Zad _ 1 _ (n+10) _::Zaa _ _ _::Zak M _ 1::Zaa X _ _::_::F)at h9
    exact((h9.drop_ 3).front 2 rfl).front 2 rfl
theorem Zr2 {P:Program}{t kt et:TypeId}{w:World}{r clock:Nat}{es:Array MapEntry}(hm:P.underlying t=some (.map kt et))(hb:w.heap[r]? =some (.map es clock)):
  (Instr.range t (.map (some r))).run P w=.ok (.pointer (some ⟨w.heap.size,0,none⟩)) (w.alloc (.mapIter (some r) clock #[] clock)):=by
 unfold Instr.range
 simp[run_underlying hm,MapKept.run_getObj_map hb,Result.andThen]
theorem Zv7 {P:Program}{w:World}{r clock:Nat}(hb:w.heap[r]? =some (.map #[] clock))(ty:TypeId):
  (Instr.next (.pointer (some ⟨w.heap.size,0,none⟩)) false ty).run P (w.alloc (.mapIter (some r) clock #[] clock))=.ok (.tuple #[.bool false]) (w.alloc (.mapIter (some r) clock #[] clock)):=by
 have hlt:r < w.heap.size:=(Array.getElem?_eq_some_iff.1 hb).1
 rcases run_next_at (P:=P) (w.alloc (.mapIter (some r) clock #[] clock)) ty w.heap.size r clock clock #[] #[] clock (heap_alloc_new w _) ((Below.heap_alloc _ _ _ hlt).trans hb) (fun x hx=>by cases hx) (Nat.le_refl _)with⟨_,h⟩ | ⟨e,he,_⟩
 ·exact h
 ·simp[leftOf]at he
def Zbf (MS:Nat)(last:Int):Array Value:= #[.map (some MS),.int .i64 last]
theorem Sep.look_state {w:World}{L:List Zae}{i M c:Nat}{st:Int}(h:Sep w L)(hi:L[i]? =some (Zak M (Zaw (.int .i64 st)) c))(ok:Bool):
  (Instr.lookup 252 (.map (some M)) (.int .i64 1) ok).run prog w=.ok (if ok then .tuple #[.int .i64 st,.bool true]else .int .i64 st) w:=
 Zcr (P:=prog) (t:=252) (k:=.int .i64 1) underlying252 underlying3 rfl (h.map_ hi) (i:=0) (by rfl) ok
theorem Zyh {w:World}{L:List Zae}{i S MS:Nat}(h:Sep w L)(hi:L[i]? =some (Zaa S 254 (Zbf MS 0))):
  CA 230 #[.pointer (some ⟨S,0,none⟩),.int .i64 1] w fun e w'=>e=.returned (.int .i64 0)/\w=w':=by
 have kK:=h.at_ hi
 unfold Zbf at kK
 clear h hi
 go_enter func230,ntmps230
 go_wp2
 go_ret
 exact⟨rfl,rfl⟩
theorem Zef {w:World}{L:List Zae}{i j S MS c:Nat}{st:Int}(h:Sep w L)(hi:L[i]? =some (Zaa S 254 (Zbf MS 1)))(hj:L[j]? =some (Zak MS (Zaw (.int .i64 st)) c)):
  CA 230 #[.pointer (some ⟨S,0,none⟩),.int .i64 1] w fun e w'=>e=.returned (.int .i64 st)/\w=w':=by
 have kK:=h.at_ hi
 have q:=h.look_state hj true
 unfold Zbf at kK
 clear h hi hj
 go_enter func230,ntmps230
 go_wp2
 go_ret
 exact⟨rfl,rfl⟩
theorem Zpi {w:World}{L:List Zae}{i j S MS c:Nat}{st nx:Int}(hst:(st=1/\nx=1)∨(st=1/\nx=2)∨(st=2/\nx=2)∨(st=2/\nx=4))(h:Sep w L)(hi:L[i]? =some (Zaa S 254 (Zbf MS 1)))(hj:L[j]? =some (Zak MS (Zaw (.int .i64 st)) c)):
  CA 226 #[.pointer (some ⟨S,0,none⟩),.int .i64 1,.int .i64 nx] w fun e w'=>e=.returned (.tuple #[])/\Sep w' (L.set j (Zak MS (Zaw (.int .i64 nx)) c)):=by
 have kK:=h.at_ hi
 have HS:=Hd (Zef h hi hj)
 have qm:=Zkr (P:=prog) (t:=252) (k:=.int .i64 1) underlying252 underlying3 rfl (h.map_ hj) (i:=0) (by rfl) (by rfl) (.int .i64 nx)
 have H:=Hd (h.putMap (c':=c) (es':=Zaw (.int .i64 nx)) hj)
 have e:(Zaw (.int .i64 st)).modify 0 (fun e=>{e with key:=.int .i64 1,val:=.int .i64 nx})=Zaw (.int .i64 nx):=rfl
 rw[e]at qm
 unfold Zbf at kK
 clear h hi hj e
 rcases hst with⟨rfl,rfl⟩ | ⟨rfl,rfl⟩ | ⟨rfl,rfl⟩ | ⟨rfl,rfl⟩
 all_goals
  go_enter func226,ntmps226
  go_wp2_with (go_at_call 230;refine HS.out.mono ?_;rintro e w' ⟨rfl,rfl⟩)
  go_wp2
  refine bodyPost_end (results_none rfl _ _ _) rfl ?_
  exact⟨rfl,H.out⟩
theorem sm_many {w:World}{L:List Zae}{i j S MS:Nat}{last:Int}(h:Sep w L)(hi:L[i]? =some (Zaa S 254 (Zbf MS last)))(hj:L[j]? =some (Zak MS #[] 0)):
  CA 324 #[.pointer (some ⟨S,0,none⟩)] w fun e w'=>e=.returned (.int .i64 0)/\Below w.heap.size w w':=by
 have kK:=h.at_ hi
 have q1:=Zr2 (P:=prog) underlying252 (h.map_ hj)
 have q2:=Zv7 (P:=prog) (h.map_ hj)
 unfold Zbf at kK
 clear h hi hj
 go_enter func324,ntmps324
 go_wp2
 refine wp_loop_rounds 1 ?_
 rw[rounds_succ]
 go_wp2
 go_ret
 exact⟨rfl,(Below.refl _ _).alloc (Nat.le_refl _) _⟩
theorem sm_open {w:World}{F:List Zae}{S MS:Nat}(h:Sep w (Zaa S 254 (Zbf MS 0)::Zak MS #[] 0::F)):
  CA 312 #[.pointer (some ⟨S,0,none⟩),.int .i64 1] w fun e w'=>e=.returned (.tuple #[.int .i64 0,.bool false])/\Sep w' (Zaa S 254 (Zbf MS 1)::Zak MS (Zaw (.int .i64 1)) 1::F):=by
 have kK:=h.at_ (i:=0) rfl
 have H:=Hd h
 unfold Zbf at kK
 clear h
 go_enter func312,ntmps312
 go_wp2_with fail
 have h2:=H.out.set_ (i:=0) rfl 1 (.int .i64 1)
 obtain⟨w2,hw2⟩:=exl (w.setCell ⟨S,1,none⟩ (.int .i64 1))
 rw[hw2]at h2⊢
 change Sep w2 (Zaa S _ (Zbf MS 1)::_)at h2
 refine(sm_many h2 (i:=0) (j:=1) rfl rfl).mono ?_
 rintro e w3 ⟨rfl,hb3⟩
 have h3:=h2.below hb3
 clear kK H hw2 h2 hb3
 have kK:=h3.at_ (i:=0) rfl
 have qm:(Instr.mapUpdate 252 (.map (some MS)) (.int .i64 1) (.int .i64 1)).run prog w3=.ok () (putM w3 MS (Zaw (.int .i64 1)) 1):=Za9 (P:=prog) (t:=252) (k:=.int .i64 1) underlying252 underlying3 rfl (h3.map_ (i:=1) rfl) (by rfl) (.int .i64 1)
 have H3:=Hd (h3.putMap (i:=1) (c':=1) (es':=Zaw (.int .i64 1)) rfl)
 unfold Zbf at kK
 clear h3
 go_wp2
 go_ret2
 exact⟨rfl,H3.out⟩
theorem push_set {α:Type}(a:Array α)(x y:α):(a.push x).setIfInBounds a.size y=a.push y:=by
 apply Array.ext
 ·simp
 ·intro i h1 h2
  rw[Array.getElem_setIfInBounds (by simpa using h1),Array.getElem_push,Array.getElem_push]
  by_cases h:a.size=i
  ·subst h;simp
  ·have:i < a.size:=by simp at h1;omega
   simp[h,this]
theorem Zt8 (w:World)(n:Nat)(o o':Obj):ChangeMaps.setBlock ((w.drewN n).alloc o) w.heap.size o'=(w.drewN n).alloc o':=by
 show({(w.drewN n).alloc o with heap:=((w.heap.push o).setIfInBounds w.heap.size o')}:World)=_
 rw[push_set]
 rfl
def sid (k:Nat):Int:=((2*k+1:Nat):Int)
theorem Zno (k:Nat):(sid k).tmod 2=1:=by
 unfold sid
 rw[Int.tmod_eq_emod_of_nonneg (by omega)]
 omega
section
variable {w:World} {L:List Zae} {i j S MS:Nat} {last:Int} {sl:List (Int×Value)}
theorem Zgq (k:Nat)(st:Int)(hk:k < 1000)(hl:sid k<=last)(hv:Za8 sl (sid k)=some (.int .i64 st))(h:Sep w L)(hi:L[i]? =some (Zaa S 254 (Zbf MS last)))(hj:L[j]? =some (Zan Zat MS sl)):
  CA 230 #[.pointer (some ⟨S,0,none⟩),.int .i64 (sid k)] w fun e w'=>e=.returned (.int .i64 st)/\w=w':=by
 have kK:=h.at_ hi
 have q:=h.lookV (P:=prog) Zja hj underlying252 underlying3 hv true
 have e1:=Zno k
 have e2:1<=sid k:=by unfold sid;omega
 have e3:sid k<=100000:=by unfold sid;omega
 obtain⟨id,hid⟩:=exl (sid k)
 rw[hid]at e1 e2 e3 hl q⊢
 have e4:¬id < 1:=by omega
 have e5:¬last < id:=by omega
 have e6:IntKind.i64.wrap (1:Int)=1:=by decide
 have q2:(Instr.lookup 252 (.map (some MS)) (.int .i64 id) true).run prog w=.ok (.tuple #[.int .i64 st,.bool true]) w:=q
 unfold Zbf at kK
 clear h hi hj hv hid q hl hk
 go_enter func230,ntmps230
 go_wp2
 go_ret
 exact⟨rfl,rfl⟩
theorem vs_idle (k:Nat)(hk:k < 1000)(hl:last < sid k)(h:Sep w L)(hi:L[i]? =some (Zaa S 254 (Zbf MS last))):
  CA 230 #[.pointer (some ⟨S,0,none⟩),.int .i64 (sid k)] w fun e w'=>e=.returned (.int .i64 0)/\w=w':=by
 have kK:=h.at_ hi
 have e1:=Zno k
 have e2:1<=sid k:=by unfold sid;omega
 obtain⟨id,hid⟩:=exl (sid k)
 rw[hid]at e1 e2 hl⊢
 have e4:¬id < 1:=by omega
 unfold Zbf at kK
 clear h hi hid hk
 go_enter func230,ntmps230
 go_wp2
 go_ret
 exact⟨rfl,rfl⟩
theorem Ztw (k:Nat)(st nx:Int)(hk:k < 1000)(hnx:nx=1∨nx=2∨nx=4)(h0:st≠0)(hl:sid k<=last)(hv:Za8 sl (sid k)=some (.int .i64 st))(hd:(sl.map (·.1)).Nodup)(h:Sep w L)(hi:L[i]? =some (Zaa S 254 (Zbf MS last)))(hj:L[j]? =some (Zan Zat MS sl)):
  CA 226 #[.pointer (some ⟨S,0,none⟩),.int .i64 (sid k),.int .i64 nx] w fun e w'=>e=.returned (.tuple #[])/\Sep w' (L.set j (Zan Zat MS (Ze3 sl (sid k) (.int .i64 nx)))):=by
 have kK:=h.at_ hi
 have HS:=Hd (Zgq k st hk hl hv h hi hj)
 obtain⟨es,c,qm0,h2⟩:=h.updO (P:=prog) Zja hj underlying252 underlying3 hv hd (.int .i64 nx)
 have H:=Hd h2
 obtain⟨id,hid⟩:=exl (sid k)
 rw[hid]at qm0 HS⊢
 have qm:(Instr.mapUpdate 252 (.map (some MS)) (.int .i64 id) (.int .i64 nx)).run prog w=.ok () (putM w MS es c):=qm0
 unfold Zbf at kK
 clear h hi hj hv hd h2 qm0 hl
 have hne:¬st=0:=h0
 rcases hnx with rfl | rfl | rfl
 all_goals
  go_enter func226,ntmps226
  go_wp2_with (go_at_call 230;refine HS.out.mono ?_;rintro e w' ⟨rfl,rfl⟩)
  go_wp2
  refine bodyPost_end (results_none rfl _ _ _) rfl ?_
  rw[hid]at H
  exact⟨rfl,H.out⟩
theorem vs_live (st:Int)(w:World):CA 283 #[.int .i64 st] w fun e w'=>(∃b,e=.returned (.bool b))/\w=w':=by
 by_cases h1:st=1
 ·subst h1
  go_enter func283,ntmps283
  go_wp2
  go_ret
  exact⟨⟨_,rfl⟩,rfl⟩
 ·by_cases h2:st=2
  ·subst h2
   go_enter func283,ntmps283
   go_wp2
   go_ret
   exact⟨⟨_,rfl⟩,rfl⟩
  ·by_cases h3:st=3
   ·subst h3
    go_enter func283,ntmps283
    go_wp2
    go_ret
    exact⟨⟨_,rfl⟩,rfl⟩
   ·go_enter func283,ntmps283
    go_wp2
    go_ret
    exact⟨⟨_,rfl⟩,rfl⟩
theorem vs_many (hn:sl.length<=100)(hint:∀p∈sl,∃st,p.2=.int .i64 st)(h:Sep w L)(hi:L[i]? =some (Zaa S 254 (Zbf MS last)))(hj:L[j]? =some (Zan Zat MS sl)):
  CA 324 #[.pointer (some ⟨S,0,none⟩)] w fun e w'=>(∃m:Nat,e=.returned (.int .i64 ((m:Nat):Int))/\m<=sl.length)/\Below w.heap.size w w':=by
 have kK:=h.at_ hi
 obtain⟨es,clock,hb,hm,hbo,hno⟩:=h.get hj
 have hb:w.heap[MS]? =some (.map es clock):=hb
 have hes:es.size=sl.length:=by
  have:=congrArg List.length hm
  simpa using this
 have hv:∀x∈es.toList,∃st,x.val=.int .i64 st:=by
  intro x hx
  obtain⟨n,hn⟩:=List.mem_iff_getElem?.1 hx
  have h2:=congrArg (·[n]?) hm
  simp only[List.getElem?_map,hn,Option.map_some]at h2
  cases hs:sl[n]? with
  | none=>rw[hs]at h2;cases h2
  | some p=>
   rw[hs]at h2
   simp only[Option.map_some,Option.some.injEq,Prod.mk.injEq]at h2
   obtain⟨st,e⟩:=hint p (List.mem_of_getElem? hs)
   exact⟨st,by rw[h2.2,e]⟩
 have hrg:=run_range_map (P:=prog) w 252 3 3 MS es clock underlying252 hb
 unfold Zbf at kK
 have hlast:=hm
 clear h hi hj hm hint hlast
 go_enter func324,ntmps324
 go_wp2
 go_loopw [3] (fun s w'=>∃(n:Nat) (Zf7:Array Nat) (m:Nat),w'=(w.drewN n).alloc (.mapIter (some MS) clock Zf7 clock)/\s=.int .i64 ((m:Nat):Int)/\m+(leftOf es Zf7).size<=es.size) (fun _ w'=>(leftOf es (w'.iterSeen w.heap.size)).size)
 case atStart=>exact⟨0, #[],0,rfl,rfl,by rw[Nat.zero_add];unfold leftOf;exact Array.size_filter_le ..⟩
 case round=>
  obtain⟨n,Zf7,m,rfl,rfl,hml⟩:=hrel
  have hbw:∀n2 seen2,Below w.heap.size w ((w.drewN n2).alloc (.mapIter (some MS) clock seen2 clock)):=fun n2 seen2=>(show Below w.heap.size w (w.drewN n2)from⟨rfl,rfl,rfl,Nat.le_refl _,fun _ _=>rfl⟩).alloc (Nat.le_refl _) _
  have HBW:=Hd hbw
  have hlt:=World.block_lt_of_cell? w _ (show w.cell? ⟨S,0,none⟩=some _ from kK.1 0)
  have hMS:MS < w.heap.size:=(Array.getElem?_eq_some_iff.1 hb).1
  have law:=run_next_at (P:=prog) ((w.drewN n).alloc (.mapIter (some MS) clock Zf7 clock)) 0 w.heap.size MS clock clock Zf7 es clock (heap_alloc_new _ _) ((Below.heap_alloc _ _ _ hMS).trans hb) hbo (Nat.le_refl _)
  rcases law with⟨h0,hrun⟩ | ⟨e,he,w2,hw2,hrun⟩
  ·have hnx:∀ty,(Instr.next (.pointer (some ⟨w.heap.size,0,none⟩)) false ty).run prog ((w.drewN n).alloc (.mapIter (some MS) clock Zf7 clock))=_:=fun _=>hrun
   have HM:=Hd (show m<=sl.length by omega)
   clear hbw hml hes
   go_wp2
   go_ret
   exact⟨⟨m,rfl,HM.out⟩,HBW.out _ _⟩
  ·obtain⟨v,hval⟩:=hv e (mem_left he).1
   have hw3:∃n2,ChangeMaps.setBlock w2 w.heap.size (.mapIter (some MS) clock (Zf7.push e.born) clock)=(w.drewN n2).alloc (.mapIter (some MS) clock (Zf7.push e.born) clock):=by
    rcases hw2 with rfl | rfl
    ·exact⟨n,Zt8 w n _ _⟩
    ·exact⟨n+1,Zt8 w (n+1) (.mapIter (some MS) clock Zf7 clock) _⟩
   obtain⟨n2,hw3⟩:=hw3
   rw[hw3,hval]at hrun
   have hnx:∀ty,(Instr.next (.pointer (some ⟨w.heap.size,0,none⟩)) false ty).run prog ((w.drewN n).alloc (.mapIter (some MS) clock Zf7 clock))=_:=fun _=>hrun
   have hen:=run_entry_at (P:=prog) ((w.drewN n2).alloc (.mapIter (some MS) clock (Zf7.push e.born) clock)) w.heap.size MS clock Zf7 es clock e (heap_alloc_new _ _) ((Below.heap_alloc _ _ _ hMS).trans hb) (mem_left he).1 hno
   rw[hval]at hen
   have hsh:=left_shrinks es Zf7 e he
   have HSH:=Hd (And.intro hsh hml)
   have hm1:((m:Nat):Int)<=1000:=by omega
   obtain⟨q,hq⟩:=exl (((m:Nat):Int))
   rw[hq]at hm1⊢
   have hq0:0<=q:=by omega
   have HQ:=Hd hq
   clear hbw hml hes hsh he hw2 hw3 hrun hval hq
   go_wp2_with fail
   refine(vs_live v _).mono ?_
   rintro e2 w3 ⟨⟨b,rfl⟩,rfl⟩
   cases b
   ·go_wp2
    go_roundw
    case rel=>exact⟨n2,_,m,rfl,by rw[HQ.out],by have:=HSH.out;omega⟩
    case measure=>
     show(leftOf es (World.iterSeen _ (w.drewN n2).heap.size)).size < (leftOf es (World.iterSeen _ (w.drewN n).heap.size)).size
     rw[World.iterSeen_alloc,World.iterSeen_alloc]
     exact HSH.out.1
   ·go_wp2
    go_roundw
    case rel=>exact⟨n2,_,m+1,rfl,by have:=HQ.out;subst this;rfl,by have:=HSH.out;omega⟩
    case measure=>
     show(leftOf es (World.iterSeen _ (w.drewN n2).heap.size)).size < (leftOf es (World.iterSeen _ (w.drewN n).heap.size)).size
     rw[World.iterSeen_alloc,World.iterSeen_alloc]
     exact HSH.out.1
theorem Zgp {K:Type} [DecidableEq K](l:List (K×Value))(k:K)(v:Value):(Ze3 l k v).map (·.1)=l.map (·.1):=by
 unfold Ze3
 rw[List.map_map]
 apply List.map_congr_left
 intro p _
 simp only[Function.comp]
 split
 ·rename_i h;exact h.symm
 ·rfl
theorem vs_open (k:Nat)(hk:k < 1000)(hn:sl.length<=15)(hint:∀p∈sl,∃st,p.2=.int .i64 st)(hl:last < sid k)(hv:Za8 sl (sid k)=none){F:List Zae}(h:Sep w (Zaa S 254 (Zbf MS last)::Zan Zat MS sl::F)):
  CA 312 #[.pointer (some ⟨S,0,none⟩),.int .i64 (sid k)] w fun e w'=>e=.returned (.tuple #[.int .i64 0,.bool false])/\Sep w' (Zaa S 254 (Zbf MS (sid k))::Zan Zat MS (sl++[(sid k,.int .i64 1)])::F):=by
 have kK:=h.at_ (i:=0) rfl
 have H:=Hd h
 have HV:=Hd hv
 have HI:=Hd hint
 have e1:=Zno k
 have e2:1<=sid k:=by unfold sid;omega
 obtain⟨id,hid⟩:=exl (sid k)
 rw[hid]at e1 e2 hl HV⊢
 have e4:¬id<=last:=by omega
 unfold Zbf at kK
 clear h hv hint hid
 go_enter func312,ntmps312
 go_wp2_with fail
 have h2:=H.out.set_ (i:=0) rfl 1 (.int .i64 id)
 obtain⟨w2,hw2⟩:=exl (w.setCell ⟨S,1,none⟩ (.int .i64 id))
 rw[hw2]at h2⊢
 change Sep w2 (Zaa S _ (Zbf MS id)::_)at h2
 refine(vs_many (by omega) HI.out h2 (i:=0) (j:=1) rfl rfl).mono ?_
 rintro e w3 ⟨⟨m,rfl,hm⟩,hb3⟩
 have h3:=h2.below hb3
 clear kK H hw2 h2 hb3
 have kK:=h3.at_ (i:=0) rfl
 obtain⟨es,c,qm0,h4⟩:=h3.updN (P:=prog) Zja (i:=1) rfl underlying252 underlying3 HV.out (.int .i64 1)
 have qm:(Instr.mapUpdate 252 (.map (some MS)) (.int .i64 id) (.int .i64 1)).run prog w3=.ok () (putM w3 MS es c):=qm0
 have H4:=Hd h4
 have hm2:¬((m:Nat):Int)≥16:=by omega
 have hm3:=decide_eq_false hm2
 unfold Zbf at kK
 clear h3 h4 qm0
 go_wp2
 go_ret2
 exact⟨rfl,H4.out⟩
end
def evV (what st code:Int)(fl body:Value)(en:Bool):Array Value:= #[.int .i64 what,.int .i64 st,.int .i64 code,fl,body,.bool en]
theorem Z0l :(prog.info? 215).map (fun i=>(i.zero,i.size,i.bytes))=some (some (.agg #[.int .i64 0,.int .i64 0,.int .i64 0,.slice none 0 0,.slice none 0 0,.bool false]),6,80):=by kernel_rfl
def Zbn (i o:Int)(un:Int)(q:Value)(waits en:Bool):Array Value:= #[.int .i64 i,.int .i64 o,.int .i64 un,q,.bool waits,.bool en,.bool false]
theorem Zup {w:World}{F:List Zae}{kb C S M:Nat}{ord inn out part:Value}{iw ow un:Int}{began:Bool}(wh st cd:Int)(fa ba:Option Addr)(fn fc bn bc:Nat)(en:Bool)
  (h:Sep w (Zaa kb 200 (Zaf C S M ord inn out iw ow un began part (.slice none 0 0))::F)):
  CA 218 #[.pointer (some ⟨kb,0,none⟩),.agg (evV wh st cd (.slice fa fn fc) (.slice ba bn bc) en)] w fun e w'=>e=.returned (.tuple #[])/\∃A c,Sep w' (Zaa kb 200 (Zaf C S M ord inn out iw ow un began part (.slice A 1 c))::
   Zad 215 6 (.slice A 1 c) 1 (evV wh st cd (.slice fa fn fc) (.slice ba bn bc) en).toList::F):=by
 have h1:=(h.nilRow 215 6).newBlk 215 (evV wh st cd (.slice fa fn fc) (.slice ba bn bc) en)
 unfold evV at h1
 have kX:=h1.at_ (i:=0) rfl
 have kK:=h1.at_ (i:=2) rfl
 have h2:=h1.drew.newBlk 215 (evV wh st cd (.slice fa fn fc) (.slice ba bn bc) en)
 unfold evV at h2
 have kK2:=(h1.newBlk 215 #[.int .i64 wh,.int .i64 st,.int .i64 cd,.slice fa fn fc,.slice ba bn bc,.bool en]).at_ (i:=3) rfl
 have H2:=Hd h2
 unfold Zaf at kK kK2
 clear h h1 h2
 unfold evV
 go_enter func218,ntmps218
 go_wp2_with fail
 go_region_law (refine Zgr rfl _ _ 198 215 rfl underlying198 Z0l rfl (by decide) (by decide) _ 0 [] H2.out (i:=2) rfl (by simp[Act.eval,Act.put]) _ _ (j:=0) rfl rfl (by intro u hu;simp at hu;rcases hu with rfl | rfl | rfl | rfl | rfl | rfl <;> rfl) (by simp[Act.eval,Act.put]) (by decide) ?_;intro A5 c5 w5 h5 _;have kK5:=h5.at_ (i:=3) rfl;have H5:=Hd h5;unfold Zaf at kK5;clear h5)
 all_goals
  go_wp2
  refine bodyPost_end (results_none rfl _ _ _) rfl ?_
  have h6:=H5.out.set_ (i:=3) rfl 13 (.slice A5 1 c5)
  exact⟨rfl,A5,c5,((h6.drop_ 0).drop_ 0).front 1 rfl⟩
theorem Zzn {w:World}{L:List Zae}{i j kb C S M X c:Nat}{ord inn out part evs:Value}{iw ow un:Int}{began:Bool}(h:Sep w L)(hi:L[i]? =some (Zaa kb 200 (Zaf C S M ord inn out iw ow un began part evs)))(hj:L[j]? =some (Zak M (Zaw (.pointer (some ⟨X,0,none⟩))) c)):
  CA 225 #[.pointer (some ⟨kb,0,none⟩),.int .i64 1] w fun e w'=>e=.returned (.pointer (some ⟨X,0,none⟩))/\w=w':=by
 have kK:=h.at_ hi
 have q:=Zcr (P:=prog) (t:=196) (k:=.int .i64 1) underlying196 underlying3 rfl (h.map_ hj) (i:=0) (by rfl) false
 unfold Zaf at kK
 clear h hi hj
 go_enter func225,ntmps225
 go_wp2
 go_ret
 exact⟨rfl,rfl⟩
theorem upd_chan {w:World}{L:List Zae}{M X:Nat}{a b:Zae}(h:Sep w (a::b::Zak M #[] 0::L)):(Instr.mapUpdate 196 (.map (some M)) (.int .i64 1) (.pointer (some ⟨X,0,none⟩))).run prog w=.ok () (putM w M (Zaw (.pointer (some ⟨X,0,none⟩))) 1):=
 Za9 (P:=prog) (t:=196) (k:=.int .i64 1) underlying196 underlying3 rfl (h.map_ (i:=2) rfl) (by rfl) (.pointer (some ⟨X,0,none⟩))
theorem nc_new {w:World}{F:List Zae}{kb C S M:Nat}{ord inn out part evs:Value}{iw ow un:Int}{began:Bool}(h:Sep w (Zaa kb 200 (Zaf C S M ord inn out iw ow un began part evs)::Zak M #[] 0::F)):
  CA 225 #[.pointer (some ⟨kb,0,none⟩),.int .i64 1] w fun e w'=>∃X,e=.returned (.pointer (some ⟨X,0,none⟩))/\Sep w' (Zaa X 313 (Zbn 2000 2000 0 (.slice none 0 0) false false)::Zaa kb 200 (Zaf C S M ord inn out iw ow un began part evs)::Zak M (Zaw (.pointer (some ⟨X,0,none⟩))) 1::F):=by
 have kK:=h.at_ (i:=0) rfl
 have q:=Zca (P:=prog) (t:=196) (k:=.int .i64 1) underlying196 underlying3 rfl (h.map_ (i:=1) rfl) (by rfl) (z:=.pointer none) (by kernel_rfl) false
 have H:=Hd h
 unfold Zaf at kK
 clear h
 go_enter func225,ntmps225
 go_wp2_with fail
 go_region_held3 (fun w'=>w'.cell? ⟨kb,8,none⟩=some (.int .i64 2000)) (first | exact kK.1 8 | exact kK5.1 8 | exact kK6.1 8 | exact kK7.1 8 | go_keep)
  (first
  | (go_at_call 101;refine(Zi9 _).mono ?_;rintro e w6 ⟨rfl,hb6⟩;have h6:=H5.out.below hb6;have kK6:=h6.at_ (i:=0) rfl;have h7:=h6.newBlk 313 (Zbn 2000 2000 0 (.slice none 0 0) false false);unfold Zbn at h7;have kK7:=h7.at_ (i:=1) rfl;have qm:=upd_chan (X:=w6.heap.size) h7;have H7:=Hd h7;unfold Zaf at kK7;clear h6 h7 hb6)
  | (go_at_call 101;refine(Zi9 _).mono ?_;rintro e w5 ⟨rfl,hb5⟩;have h5:=H.out.drew.below hb5;have kK5:=h5.at_ (i:=0) rfl;have H5:=Hd h5;clear h5 hb5))
 go_wp2
 go_ret
 exact⟨_,rfl,H7.out.putMap (i:=2) rfl⟩
theorem nc_stop0 {w:World}{L:List Zae}{i j kb C S M:Nat}{ord inn out part evs:Value}{iw ow un:Int}{began:Bool}(h:Sep w L)(hi:L[i]? =some (Zaa kb 200 (Zaf C S M ord inn out iw ow un began part evs)))(hj:L[j]? =some (Zak M #[] 0)):
  CA 274 #[.pointer (some ⟨kb,0,none⟩),.int .i64 1] w fun e w'=>e=.returned (.bool false)/\w=w':=by
 have kK:=h.at_ hi
 have q:=Zca (P:=prog) (t:=196) (k:=.int .i64 1) underlying196 underlying3 rfl (h.map_ hj) (by rfl) (z:=.pointer none) (by kernel_rfl) false
 unfold Zaf at kK
 clear h hi hj
 go_enter func274,ntmps274
 go_wp2
 go_ret
 exact⟨rfl,rfl⟩
theorem nc_stop1 {w:World}{L:List Zae}{i j k kb C S M X c:Nat}{ord inn out part evs q:Value}{iw ow un ci co cu:Int}{began wt en:Bool}(h:Sep w L)(hi:L[i]? =some (Zaa kb 200 (Zaf C S M ord inn out iw ow un began part evs)))(hj:L[j]? =some (Zak M (Zaw (.pointer (some ⟨X,0,none⟩))) c))(hk:L[k]? =some (Zaa X 313 (Zbn ci co cu q wt en))):
  CA 274 #[.pointer (some ⟨kb,0,none⟩),.int .i64 1] w fun e w'=>e=.returned (.bool false)/\w=w':=by
 have kK:=h.at_ hi
 have kX:=h.at_ hk
 have ql:=Zcr (P:=prog) (t:=196) (k:=.int .i64 1) underlying196 underlying3 rfl (h.map_ hj) (i:=0) (by rfl) false
 unfold Zaf at kK
 unfold Zbn at kX
 clear h hi hj hk
 go_enter func274,ntmps274
 go_wp2
 go_ret
 exact⟨rfl,rfl⟩
theorem Zwa {w:World}{L:List Zae}{i i1 j kb C S M MS c:Nat}{ord inn out part evs:Value}{iw ow un:Int}{began:Bool}{st nx:Int}(hst:(st=1/\nx=1)∨(st=1/\nx=2)∨(st=2/\nx=2)∨(st=2/\nx=4))(h:Sep w L)(hi:L[i]? =some (Zaa kb 200 (Zaf C S M ord inn out iw ow un began part evs)))
  (hi1:L[i1]? =some (Zaa S 254 (Zbf MS 1))) (hj:L[j]? =some (Zak MS (Zaw (.int .i64 st)) c)):
  CA 276 #[.pointer (some ⟨kb,0,none⟩),.int .i64 1,.int .i64 nx,.int .i64 0,.bool false] w fun e w'=>e=.returned (.bool true)/\Sep w' (L.set j (Zak MS (Zaw (.int .i64 nx)) c)):=by
 have kK:=h.at_ hi
 have HP:=Hd (Zpi hst h hi1 hj)
 unfold Zaf at kK
 clear h hi hj hi1 hst
 go_enter func276,ntmps276
 go_wp2_with (go_at_call 226;refine HP.out.mono ?_;rintro e w' ⟨rfl,h2⟩;have H2:=Hd h2;clear h2)
 go_ret
 exact⟨rfl,H2.out⟩
def ptr (X:Nat):Value:=.pointer (some ⟨X,0,none⟩)
theorem Ztz {w:World}{F:List Zae}{kb C S M n c0:Nat}{A0:Option Addr}{xs:List Value}{ord inn out part:Value}{iw ow un:Int}{began:Bool}(hn:n<=1000)(wh st cd:Int)(fa ba:Option Addr)(fn fc bn bc:Nat)(en:Bool)
  (h:Sep w (Zaa kb 200 (Zaf C S M ord inn out iw ow un began part (.slice A0 n c0))::Zad 215 6 (.slice A0 n c0) n xs::F)):
  CA 218 #[.pointer (some ⟨kb,0,none⟩),.agg (evV wh st cd (.slice fa fn fc) (.slice ba bn bc) en)] w fun e w'=>e=.returned (.tuple #[])/\∃A c,Sep w' (Zaa kb 200 (Zaf C S M ord inn out iw ow un began part (.slice A (n+1) c))::
   Zad 215 6 (.slice A (n+1) c) (n+1) (xs++(evV wh st cd (.slice fa fn fc) (.slice ba bn bc) en).toList)::F):=by
 have h1:=h.newBlk 215 (evV wh st cd (.slice fa fn fc) (.slice ba bn bc) en)
 unfold evV at h1
 have kX:=h1.at_ (i:=0) rfl
 have kK:=h1.at_ (i:=1) rfl
 have h2:=h1.drew.newBlk 215 (evV wh st cd (.slice fa fn fc) (.slice ba bn bc) en)
 unfold evV at h2
 have kK2:=(h1.newBlk 215 #[.int .i64 wh,.int .i64 st,.int .i64 cd,.slice fa fn fc,.slice ba bn bc,.bool en]).at_ (i:=2) rfl
 have H2:=Hd h2
 unfold Zaf at kK kK2
 clear h h1 h2
 unfold evV
 go_enter func218,ntmps218
 go_wp2_with fail
 go_region_law (refine Zgr rfl _ _ 198 215 rfl underlying198 Z0l rfl (by decide) (by decide) _ n xs H2.out (i:=3) rfl (by simp[Act.eval,Act.put]) _ _ (j:=0) rfl rfl (by intro u hu;simp at hu;rcases hu with rfl | rfl | rfl | rfl | rfl | rfl <;> rfl) (by simp[Act.eval,Act.put]) (by omega) ?_;intro A5 c5 w5 h5 _;have kK5:=h5.at_ (i:=2) rfl;have H5:=Hd h5;unfold Zaf at kK5;clear h5)
 all_goals
  go_wp2
  refine bodyPost_end (results_none rfl _ _ _) rfl ?_
  have h6:=H5.out.set_ (i:=2) rfl 13 (.slice A5 (n+1) c5)
  exact⟨rfl,A5,c5,((h6.drop_ 0).drop_ 0)⟩
theorem Zx0 {w:World}{L:List Zae}{i j kb C S M X:Nat}{cl:List (Int×Value)}{ord inn out part evs:Value}{iw ow un id:Int}{began:Bool}(h:Sep w L)(hi:L[i]? =some (Zaa kb 200 (Zaf C S M ord inn out iw ow un began part evs)))(hj:L[j]? =some (Zan Zat M cl))(hv:Za8 cl id=some (ptr X)):
  CA 225 #[.pointer (some ⟨kb,0,none⟩),.int .i64 id] w fun e w'=>e=.returned (.pointer (some ⟨X,0,none⟩))/\w=w':=by
 have kK:=h.at_ hi
 have q:(Instr.lookup 196 (.map (some M)) (.int .i64 id) false).run prog w=.ok (.pointer (some ⟨X,0,none⟩)) w:=h.lookV (P:=prog) Zja hj underlying196 underlying3 hv false
 unfold Zaf at kK
 clear h hi hj hv
 go_enter func225,ntmps225
 go_wp2
 go_ret
 exact⟨rfl,rfl⟩
theorem vc_put {w:World}{L:List Zae}{M X j:Nat}{cl:List (Int×Value)}{id:Int}(h:Sep w L)(hj:L[j]? =some (Zan Zat M cl))(hv:Za8 cl id=none):∃es c,(Instr.mapUpdate 196 (.map (some M)) (.int .i64 id) (.pointer (some ⟨X,0,none⟩))).run prog w=.ok () (putM w M es c)/\Hid (Sep (putM w M es c) (L.set j (Zan Zat M (cl++[(id,ptr X)])))):=by
 obtain⟨es,c,h1,h2⟩:=h.updN (P:=prog) Zja hj underlying196 underlying3 hv (ptr X)
 exact⟨es,c,h1,Hd h2⟩
theorem vc_new {w:World}{F:List Zae}{kb C S M:Nat}{cl:List (Int×Value)}{ord inn out part evs:Value}{iw ow un id:Int}{began:Bool}(hv:Za8 cl id=none)(h:Sep w (Zaa kb 200 (Zaf C S M ord inn out iw ow un began part evs)::Zan Zat M cl::F)):
  CA 225 #[.pointer (some ⟨kb,0,none⟩),.int .i64 id] w fun e w'=>∃X,e=.returned (.pointer (some ⟨X,0,none⟩))/\Sep w' (Zaa X 313 (Zbn 2000 2000 0 (.slice none 0 0) false false)::Zaa kb 200 (Zaf C S M ord inn out iw ow un began part evs)::Zan Zat M (cl++[(id,ptr X)])::F):=by
 have kK:=h.at_ (i:=0) rfl
 have q:(Instr.lookup 196 (.map (some M)) (.int .i64 id) false).run prog w=.ok (.pointer none) w:=h.lookN (P:=prog) Zja (i:=1) rfl underlying196 underlying3 hv (z:=.pointer none) (by kernel_rfl) false
 have H:=Hd h
 have HV:=Hd hv
 unfold Zaf at kK
 clear h hv
 go_enter func225,ntmps225
 go_wp2_with fail
 go_region_held3 (fun w'=>w'.cell? ⟨kb,8,none⟩=some (.int .i64 2000)) (first | exact kK.1 8 | exact kK5.1 8 | exact kK6.1 8 | exact kK7.1 8 | go_keep)
  (first
  | (go_at_call 101;refine(Zi9 _).mono ?_;rintro e w6 ⟨rfl,hb6⟩;have h6:=H5.out.below hb6;have kK6:=h6.at_ (i:=0) rfl;have h7:=h6.newBlk 313 (Zbn 2000 2000 0 (.slice none 0 0) false false);unfold Zbn at h7;have kK7:=h7.at_ (i:=1) rfl;obtain⟨es,c,qm,H7⟩:=vc_put (X:=w6.heap.size) h7 (j:=2) rfl HV.out;unfold Zaf at kK7;clear h6 h7 hb6)
  | (go_at_call 101;refine(Zi9 _).mono ?_;rintro e w5 ⟨rfl,hb5⟩;have h5:=H.out.drew.below hb5;have kK5:=h5.at_ (i:=0) rfl;have H5:=Hd h5;clear h5 hb5))
 go_wp2
 go_ret
 exact⟨_,rfl,H7.out⟩
theorem vc_stop0 {w:World}{L:List Zae}{i j kb C S M:Nat}{cl:List (Int×Value)}{ord inn out part evs:Value}{iw ow un id:Int}{began:Bool}(h:Sep w L)(hi:L[i]? =some (Zaa kb 200 (Zaf C S M ord inn out iw ow un began part evs)))(hj:L[j]? =some (Zan Zat M cl))(hv:Za8 cl id=none):
  CA 274 #[.pointer (some ⟨kb,0,none⟩),.int .i64 id] w fun e w'=>e=.returned (.bool false)/\w=w':=by
 have kK:=h.at_ hi
 have q:(Instr.lookup 196 (.map (some M)) (.int .i64 id) false).run prog w=.ok (.pointer none) w:=h.lookN (P:=prog) Zja hj underlying196 underlying3 hv (z:=.pointer none) (by kernel_rfl) false
 unfold Zaf at kK
 clear h hi hj hv
 go_enter func274,ntmps274
 go_wp2
 go_ret
 exact⟨rfl,rfl⟩
theorem vc_stop1 {w:World}{L:List Zae}{i j k kb C S M X:Nat}{cl:List (Int×Value)}{ord inn out part evs q:Value}{iw ow un ci co cu id:Int}{began wt en:Bool}(h:Sep w L)(hi:L[i]? =some (Zaa kb 200 (Zaf C S M ord inn out iw ow un began part evs)))(hj:L[j]? =some (Zan Zat M cl))(hv:Za8 cl id=some (ptr X))(hk:L[k]? =some (Zaa X 313 (Zbn ci co cu q wt en))):
  CA 274 #[.pointer (some ⟨kb,0,none⟩),.int .i64 id] w fun e w'=>e=.returned (.bool false)/\w=w':=by
 have kK:=h.at_ hi
 have kX:=h.at_ hk
 have ql:(Instr.lookup 196 (.map (some M)) (.int .i64 id) false).run prog w=.ok (.pointer (some ⟨X,0,none⟩)) w:=h.lookV (P:=prog) Zja hj underlying196 underlying3 hv false
 unfold Zaf at kK
 unfold Zbn at kX
 clear h hi hj hk hv
 go_enter func274,ntmps274
 go_wp2
 go_ret
 exact⟨rfl,rfl⟩
theorem Zvi {w:World}{L:List Zae}{i i1 j kb C S M MS:Nat}{sl:List (Int×Value)}{ord inn out part evs:Value}{iw ow un last:Int}{began:Bool}(k:Nat)(st nx:Int)(hk:k < 1000)(hnx:nx=1∨nx=2∨nx=4)(h0:st≠0)(hl:sid k<=last)(hv:Za8 sl (sid k)=some (.int .i64 st))(hd:(sl.map (·.1)).Nodup)(h:Sep w L)(hi:L[i]? =some (Zaa kb 200 (Zaf C S M ord inn out iw ow un began part evs)))
  (hi1:L[i1]? =some (Zaa S 254 (Zbf MS last))) (hj:L[j]? =some (Zan Zat MS sl)):
  CA 276 #[.pointer (some ⟨kb,0,none⟩),.int .i64 (sid k),.int .i64 nx,.int .i64 0,.bool false] w fun e w'=>e=.returned (.bool true)/\Sep w' (L.set j (Zan Zat MS (Ze3 sl (sid k) (.int .i64 nx)))):=by
 have kK:=h.at_ hi
 have HP:=Hd (Ztw k st nx hk hnx h0 hl hv hd h hi1 hj)
 obtain⟨id,hid⟩:=exl (sid k)
 rw[hid]at HP⊢
 unfold Zaf at kK
 clear h hi hj hi1 hv hd h0 hl hid hnx
 go_enter func276,ntmps276
 go_wp2_with (go_at_call 226;refine HP.out.mono ?_;rintro e w' ⟨rfl,h2⟩;have H2:=Hd h2;clear h2)
 go_ret
 exact⟨rfl,H2.out⟩
theorem vu_grant {w:World}{L:List Zae}{i kb C S M iw m:Nat}{ord inn out part evs:Value}{ow un:Int}{began:Bool}(id:Int)(h1:1000<=iw+m)(h2:iw+m<=10000)(h:Sep w L)(hi:L[i]? =some (Zaa kb 200 (Zaf C S M ord inn out ((iw:Nat):Int) ow un began part evs))):
  CA 229 #[.pointer (some ⟨kb,0,none⟩),.int .i64 id,.pointer (some ⟨kb,6,none⟩),.int .i64 ((m:Nat):Int)] w fun e w'=>e=.returned (.tuple #[])/\w=w':=by
 have kK:=h.at_ hi
 have HD:=Hd (fl_due (iw+m) h1 (by omega))
 have hs:((iw:Nat):Int)+((m:Nat):Int)=((iw+m:Nat):Int):=by omega
 have hw:wrap64 ((iw+m:Nat):Int)=((iw+m:Nat):Int):=by unfold wrap64;omega
 obtain⟨p,hp⟩:∃p:Int,((iw+m:Nat):Int)=p:=⟨_,rfl⟩
 obtain⟨IW,hIW⟩:∃IW:Int,((iw:Nat):Int)=IW:=⟨_,rfl⟩
 obtain⟨MM,hMM⟩:∃MM:Int,((m:Nat):Int)=MM:=⟨_,rfl⟩
 rw[hp]at HD hs hw
 rw[hIW]at hs kK
 rw[hMM]at hs⊢
 unfold Zaf at kK
 clear h hi h1 h2 hp hIW hMM
 go_enter func229,ntmps229
 go_wp2_with fail
 refine(Ze0 ⟨kb,6,none⟩ _ w (kK.1 6)).mono ?_
 rintro e w' ⟨rfl,rfl⟩
 go_wp2_with fail
 refine(HD.out _).mono ?_
 rintro e w' ⟨rfl,rfl⟩
 go_wp2
 refine bodyPost_end (results_none rfl _ _ _) rfl ?_
 exact⟨rfl,rfl⟩
theorem vu_used {w:World}{F:List Zae}{kb C S M MS X k n m iw:Nat}{cl sl:List (Int×Value)}{ord inn out part evs q:Value}{ow ci co last:Int}{began wt en:Bool}(hk:k < 1000)(hn:n<=900)(hm:m<=2000)(h1:1000<=iw+m)(h2:iw+m<=10000)(hl:sid k<=last)
  (hcv:Za8 cl (sid k)=some (ptr X)) (hsv:Za8 sl (sid k)=some (.int .i64 2))
  (h:Sep w (Zaa kb 200 (Zaf C S M ord inn out ((iw:Nat):Int) ow ((n+m:Nat):Int) began part evs)::Zan Zat M cl::Zaa X 313 (Zbn ci co ((n:Nat):Int) q wt en)::Zaa S 254 (Zbf MS last)::Zan Zat MS sl::F)):
  CA 166 #[.pointer (some ⟨kb,0,none⟩),.int .i64 (sid k),.int .i64 ((n:Nat):Int)] w fun e w'=>e=.returned .nilIface/\Sep w' (Zaa kb 200 (Zaf C S M ord inn out ((iw:Nat):Int) ow ((m:Nat):Int) began part evs)::Zan Zat M cl::Zaa X 313 (Zbn ci co 0 q wt en)::Zaa S 254 (Zbf MS last)::Zan Zat MS sl::F):=by
 have kK:=h.at_ (i:=0) rfl
 have kC:=h.at_ (i:=2) rfl
 have ql:(Instr.lookup 196 (.map (some M)) (.int .i64 (sid k)) false).run prog w=.ok (.pointer (some ⟨X,0,none⟩)) w:=h.lookV (P:=prog) Zja (i:=1) rfl underlying196 underlying3 hcv false
 have HS:=Hd (fun(w3:World) L' (h3:Sep w3 L') (i1:L'[3]? =some (Zaa S 254 (Zbf MS last))) (j1:L'[4]? =some (Zan Zat MS sl))=>Zgq k 2 hk hl hsv h3 i1 j1)
 have n0:¬((n:Nat):Int) < 0:=by omega
 have nn:¬((n:Nat):Int) < ((n:Nat):Int):=by omega
 have e1:((n+m:Nat):Int)-((n:Nat):Int)=((m:Nat):Int):=by omega
 have e2:wrap64 ((m:Nat):Int)=((m:Nat):Int):=by unfold wrap64;omega
 have e4:((n:Nat):Int)-((n:Nat):Int)=0:=by omega
 have HI:=Hd (And.intro h1 h2)
 have H:=Hd h
 obtain⟨id,hid⟩:=exl (sid k)
 obtain⟨N,hN⟩:∃N:Int,((n:Nat):Int)=N:=⟨_,rfl⟩
 obtain⟨T,hT⟩:∃T:Int,((n+m:Nat):Int)=T:=⟨_,rfl⟩
 rw[hN,hT]at H e1
 rw[hid]at HS ql⊢
 rw[hN]at kC n0 nn e4⊢
 rw[hT]at kK
 unfold Zaf at kK
 unfold Zbn at kC
 clear h h1 h2 hk hn hm hl hcv hsv hid hN hT
 go_enter func166,ntmps166
 go_wp2_with fail
 all_goals
  obtain⟨w1,hw1⟩:=exl (w.setCell ⟨kb,9,none⟩ (.int .i64 ((m:Nat):Int)))
  have h1:=H.out.set_ (i:=0) rfl 9 (.int .i64 ((m:Nat):Int))
  rw[hw1]at h1⊢
  change Sep w1 (Zaa kb _ (Zaf C S M ord inn out ((iw:Nat):Int) ow ((m:Nat):Int) began part evs)::_)at h1
  clear kK kC ql H hw1
  have kK:=h1.at_ (i:=0) rfl
  have kC:=h1.at_ (i:=2) rfl
  have H1:=Hd h1
  unfold Zaf at kK
  unfold Zbn at kC
  clear h1
  go_quiet (first | (go_at_call 229;refine Calls.quiet_of_same ((vu_grant 0 HI.out.1 HI.out.2 (H1.out.drewN _) (i:=0) rfl).mono fun e w' h=>⟨h.1,h.2.symm⟩)))
  obtain⟨w2,hw2⟩:=exl (w1.drewN nq)
  have h2:=H1.out.drewN nq
  rw[hw2]at h2⊢
  clear kK kC H1 hw2
  have kK:=h2.at_ (i:=0) rfl
  have kC:=h2.at_ (i:=2) rfl
  have H2:=Hd h2
  unfold Zaf at kK
  unfold Zbn at kC
  clear h2
  have n1:=H2.out.ne_ (i:=0) (i':=2) rfl rfl (by decide)
  have n2:=Ne.symm n1
  go_wp2_with fail
  obtain⟨w3,hw3⟩:=exl (w2.setCell ⟨X,2,none⟩ (.int .i64 0))
  have h3:=H2.out.set_ (i:=2) rfl 2 (.int .i64 0)
  rw[hw3]at h3⊢
  change Sep w3 (_::_::Zaa X _ (Zbn ci co 0 q wt en)::_)at h3
  have H3:=Hd h3
  clear kK kC n1 n2 H2 hw3 h3
  refine(HS.out _ _ H3.out rfl rfl).mono ?_
  rintro e w' ⟨rfl,rfl⟩
  go_wp2
  go_ret
  exact⟨rfl,H3.out⟩
end
end Go.Proofs.YtbgnggkgmeagkaaGreatDoor
