/-
  A part of the proof of TopAlike: each theorem states its own conditions.
-/
import Derived.Test.YtbgnggkgmeagkaaGreatDoorMTopAlike26
set_option linter.unusedSimpArgs false
set_option linter.unusedVariables false
set_option maxRecDepth 100000
set_option maxHeartbeats 16000000
namespace Go.Proofs.YtbgnggkgmeagkaaGreatDoor
open Go.Proofs.Tryz
section
open Go.RowKit Go.Shelf
theorem erS {a:Zae}{l:List Zae}{i:Nat}:(a::l).eraseIdx (i+1)=a::l.eraseIdx i:=rfl
theorem erZ {a:Zae}{l:List Zae}:(a::l).eraseIdx 0=l:=rfl
theorem Zqx {w:World}{F:List Zae}{kb C S M MS X bc mc sc:Nat}{BA:Option Addr}{ord inn out:Value}{ow:Int}
  (h:Sep w (Zad 5 1 (.slice BA 1 bc) 1 (bs [120])::Zaa kb 200 (Zaf C S M ord inn out 2000 ow 0 true (.pointer none) (.slice none 0 0))::Zak M (Zaw (.pointer (some ⟨X,0,none⟩))) mc::Zaa X 313 (Zbn 2000 2000 0 (.slice none 0 0) false false)::
   Zaa S 254 (Zbf MS 1)::Zak MS (Zaw (.int .i64 1)) sc::F)):
  CA 162 #[.pointer (some ⟨kb,0,none⟩),.agg #[.int .i64 0,.int .i64 1,.int .i64 1,.slice BA 1 bc]] w fun e w'=>e=.returned (.tuple #[])/\∃E ec,Sep w' (Zaa kb 200 (Zaf C S M ord inn out 1999 ow 1 true (.pointer none) (.slice E 1 ec))::
   Zad 215 6 (.slice E 1 ec) 1 (evV 2 1 0 (.slice none 0 0) (.slice BA 1 bc) true).toList::Zad 5 1 (.slice BA 1 bc) 1 (bs [120])::Zak M (Zaw (.pointer (some ⟨X,0,none⟩))) mc::Zaa X 313 (Zbn 1999 2000 1 (.slice none 0 0) false false)::
   Zaa S 254 (Zbf MS 1)::Zak MS (Zaw (.int .i64 2)) sc::F):=by
 have h1:=h.newBlk 134 #[.int .i64 0,.int .i64 1,.int .i64 1,.slice BA 1 bc]
 have kX:=h1.at_ (i:=0) rfl
 have kK:=h1.at_ (i:=2) rfl
 have H1:=Hd h1
 unfold Zaf at kK
 clear h h1
 go_enter func162,ntmps162
 go_wp2
 go_quiet (fail)
 obtain⟨w2,hw2⟩:=exl ((w.alloc (.cells #[.int .i64 0,.int .i64 1,.int .i64 1,.slice BA 1 bc] 134)).drewN nq)
 have h2:=H1.out.drewN nq
 rw[hw2]at h2⊢
 clear kX kK H1 hw2
 have kX:=h2.at_ (i:=0) rfl
 have kK:=h2.at_ (i:=2) rfl
 have H2:=Hd h2
 unfold Zaf at kK
 clear h2
 go_wp2_with fail
 refine(Zot 0 1 BA 1 bc (.inl rfl) w2).mono ?_
 rintro e w3 ⟨rfl,hb3⟩
 have h3:=H2.out.below hb3
 clear kX kK H2 hb3
 have kX:=h3.at_ (i:=0) rfl
 have kK:=h3.at_ (i:=2) rfl
 have n1:=h3.ne_ (i:=2) (i':=0) rfl rfl (by decide)
 have n2:=Ne.symm n1
 have H3:=Hd h3
 unfold Zaf at kK
 clear h3
 go_wp2_with fail
 obtain⟨w4,hw4⟩:=exl (w3.setCell ⟨kb,10,none⟩ (.bool true))
 have h4:=H3.out.set_ (i:=2) rfl 10 (.bool true)
 rw[hw4]at h4⊢
 change Sep w4 (_::_::Zaa kb _ (Zaf C S M ord inn out 2000 ow 0 true (.pointer none) (.slice none 0 0))::_)at h4
 clear kX kK n1 n2 hw4
 refine(cn_data h4.tail).mono ?_
 rintro e w8 ⟨rfl,E,ec,h8⟩
 have H8:=Hd h8
 clear h4 h8 H3
 go_wp2
 refine bodyPost_end (results_none rfl _ _ _) rfl ?_
 exact⟨rfl,E,ec,H8.out⟩
theorem Ztb {w:World}{F:List Zae}{kb C S M bc:Nat}{BA:Option Addr}{ord inn out evs:Value}{iw ow un:Int}
  (h:Sep w (Zaa kb 200 (Zaf C S M ord inn out iw ow un true (.pointer none) evs)::F)):
  CA 162 #[.pointer (some ⟨kb,0,none⟩),.agg #[.int .i64 4,.int .i64 1,.int .i64 0,.slice BA 0 bc]] w fun e w'=>e=.returned (.tuple #[])/\Sep w' (Zaa kb 200 (Zaf C S M ord inn out iw ow un true (.pointer none) evs)::F):=by
 have h1:=h.newBlk 134 #[.int .i64 4,.int .i64 1,.int .i64 0,.slice BA 0 bc]
 have kX:=h1.at_ (i:=0) rfl
 have kK:=h1.at_ (i:=1) rfl
 have H1:=Hd h1
 have b11:(bits .and .i64 1 1 !=0)=true:=by decide
 unfold Zaf at kK
 clear h h1
 go_enter func162,ntmps162
 go_wp2
 go_quiet (fail)
 obtain⟨w2,hw2⟩:=exl ((w.alloc (.cells #[.int .i64 4,.int .i64 1,.int .i64 0,.slice BA 0 bc] 134)).drewN nq)
 have h2:=H1.out.drewN nq
 rw[hw2]at h2⊢
 clear kX kK H1 hw2
 have kX:=h2.at_ (i:=0) rfl
 have kK:=h2.at_ (i:=1) rfl
 have H2:=Hd h2
 unfold Zaf at kK
 clear h2
 go_wp2_with fail
 refine(Zou 1 BA bc w2).mono ?_
 rintro e w3 ⟨rfl,hb3⟩
 have h3:=H2.out.below hb3
 clear kX kK H2 hb3
 have kX:=h3.at_ (i:=0) rfl
 have kK:=h3.at_ (i:=1) rfl
 have n1:=h3.ne_ (i:=1) (i':=0) rfl rfl (by decide)
 have n2:=Ne.symm n1
 have H3:=Hd (h3.set_ (i:=1) rfl 10 (.bool true))
 unfold Zaf at kK
 clear h3
 go_wp2
 refine bodyPost_end (results_none rfl _ _ _) rfl ?_
 exact⟨rfl,H3.out.tail⟩
theorem Zo2.cons {F:List Zae}{a:Zae}{OA:Option Addr}{oc:Nat}(h:Zo2 F OA oc):Zo2 (a::F) OA oc:=by
 rcases h with h | ⟨g,i,rfl,hi⟩
 ·exact .inl h
 ·exact .inr ⟨g,i+1,rfl,hi⟩
theorem cn_wide {w:World}{F:List Zae}{kb C S M bc oc:Nat}{BA OA:Option Addr}{inn out part evs:Value}{iw un:Int}{began:Bool}(ho:Zo2 F OA oc)
  (h:Sep w (Zaa kb 200 (Zaf C S M (.slice OA 0 oc) inn out iw 1996 un began part evs)::Zad 5 1 (.slice BA 4 bc) 4 (bs [0,0,0,4])::F)):
  CA 217 #[.pointer (some ⟨kb,0,none⟩),.agg #[.int .i64 7,.int .i64 0,.int .i64 0,.slice BA 4 bc]] w fun e w'=>e=.returned (.tuple #[])/\Sep w' (Zaa kb 200 (Zaf C S M (.slice OA 0 oc) inn out iw 2000 un began part evs)::F):=by
 have h1:=h.newBlk 134 #[.int .i64 7,.int .i64 0,.int .i64 0,.slice BA 4 bc]
 have kX:=h1.at_ (i:=0) rfl
 have HR:=Hd (Zag h1 (i:=2) rfl)
 have H1:=Hd h1
 clear h h1
 go_enter func217,ntmps217
 go_wp2_with fail
 refine(word4 BA 4 bc rfl _ HR.out).mono ?_
 rintro e w2 ⟨rfl,hb2⟩
 have h2:=H1.out.below hb2
 clear kX
 have kX:=h2.at_ (i:=0) rfl
 have H2:=Hd h2
 clear h2 hb2 H1 HR
 go_wp2_with fail
 refine(fl_giveS H2.out (i:=1) (b:=kb) (o:=7) (n:=1996) rfl rfl (by decide)).mono ?_
 rintro e w3 ⟨rfl,h3⟩
 change Sep w3 (_::Zaa kb _ (Zaf C S M (.slice OA 0 oc) inn out iw 2000 un began part evs)::_)at h3
 have H3:=Hd h3.tail
 clear h3 H2 kX
 go_wp2_with fail
 refine(Zzj ho.cons H3.out).mono ?_
 rintro e w4 ⟨rfl,h4⟩
 have H4:=Hd h4
 clear h4 H3 ho
 go_wp2
 refine bodyPost_ret (results_none rfl _ _ _) rfl ?_
 exact⟨rfl,H4.out.drop_ 1⟩
theorem Zqv {w:World}{F:List Zae}{kb C S M bc oc:Nat}{BA OA:Option Addr}{inn out evs:Value}{iw un:Int}(ho:Zo2 F OA oc)
  (h:Sep w (Zaa kb 200 (Zaf C S M (.slice OA 0 oc) inn out iw 1996 un true (.pointer none) evs)::Zad 5 1 (.slice BA 4 bc) 4 (bs [0,0,0,4])::F)):
  CA 162 #[.pointer (some ⟨kb,0,none⟩),.agg #[.int .i64 7,.int .i64 0,.int .i64 0,.slice BA 4 bc]] w fun e w'=>e=.returned (.tuple #[])/\Sep w' (Zaa kb 200 (Zaf C S M (.slice OA 0 oc) inn out iw 2000 un true (.pointer none) evs)::F):=by
 have h1:=h.newBlk 134 #[.int .i64 7,.int .i64 0,.int .i64 0,.slice BA 4 bc]
 have kX:=h1.at_ (i:=0) rfl
 have kK:=h1.at_ (i:=1) rfl
 have H1:=Hd h1
 have HO:=Hd ho
 unfold Zaf at kK
 clear h h1 ho
 go_enter func162,ntmps162
 go_wp2
 go_quiet (fail)
 obtain⟨w2,hw2⟩:=exl ((w.alloc (.cells #[.int .i64 7,.int .i64 0,.int .i64 0,.slice BA 4 bc] 134)).drewN nq)
 have h2:=H1.out.drewN nq
 rw[hw2]at h2⊢
 clear kX kK H1 hw2
 have kX:=h2.at_ (i:=0) rfl
 have kK:=h2.at_ (i:=1) rfl
 have HR:=Hd (Zag h2 (i:=2) rfl)
 have H2:=Hd h2
 unfold Zaf at kK
 clear h2
 go_wp2_with fail
 refine(chk_wide 0 BA bc w2 HR.out).mono ?_
 rintro e w3 ⟨rfl,hb3⟩
 have h3:=H2.out.below hb3
 clear kX kK H2 hb3 HR
 have kX:=h3.at_ (i:=0) rfl
 have kK:=h3.at_ (i:=1) rfl
 have n1:=h3.ne_ (i:=1) (i':=0) rfl rfl (by decide)
 have n2:=Ne.symm n1
 have H3:=Hd h3
 unfold Zaf at kK
 clear h3
 go_wp2_with fail
 obtain⟨w4,hw4⟩:=exl (w3.setCell ⟨kb,10,none⟩ (.bool true))
 have h4:=H3.out.set_ (i:=1) rfl 10 (.bool true)
 rw[hw4]at h4⊢
 change Sep w4 (_::Zaa kb _ (Zaf C S M (.slice OA 0 oc) inn out iw 1996 un true (.pointer none) evs)::_)at h4
 clear kX kK n1 n2 hw4
 refine(cn_wide HO.out h4.tail).mono ?_
 rintro e w8 ⟨rfl,h8⟩
 have H8:=Hd h8
 clear h4 h8 H3
 go_wp2
 refine bodyPost_end (results_none rfl _ _ _) rfl ?_
 exact⟨rfl,H8.out⟩
theorem np_fn {w:World}{L:List Zae}{i1 i2 i3 i4 B kb C S M X c:Nat}{ord inn out part evs q:Value}{iw ow un ci co cu:Int}{began en:Bool}(h:Sep w L)(h1:L[i1]? =some (Zaa B 111 #[.pointer (some ⟨kb,0,none⟩)]))
  (h2:L[i2]? =some (Zaa kb 200 (Zaf C S M ord inn out iw ow un began part evs))) (h3:L[i3]? =some (Zak M (Zaw (.pointer (some ⟨X,0,none⟩))) c)) (h4:L[i4]? =some (Zaa X 313 (Zbn ci co cu q false en))):
  CA 302 #[.int .i64 1,.pointer (some ⟨B,0,none⟩)] w fun e w'=>e=.returned (.bool true)/\w=w':=by
 have k1:=h.at_ h1
 have k2:=h.at_ h2
 have k4:=h.at_ h4
 have ql:=Zcr (P:=prog) (t:=196) (k:=.int .i64 1) underlying196 underlying3 rfl (h.map_ h3) (i:=0) (by rfl) false
 unfold Zaf at k2
 unfold Zbn at k4
 clear h h1 h2 h3 h4
 go_enter func302,ntmps302
 go_wp2
 go_ret
 exact⟨rfl,rfl⟩
theorem min_four (w:World):(Builtin.min_ #[3,3,3,3] 3 #[.int .i64 4,.int .i64 1024,.int .i64 2000,.int .i64 2000]).run prog w=.ok (.int .i64 4) w:=by kernel_rfl
def bdyF :Frm:=⟨0,1,1,Zb6⟩
def bdyB :List UInt8:=[0,0,4,0,1,0,0,0,1,47,112,33,120]
theorem Zow :Zeq bdyF=0/\Zbh bdyF=bdyB:=by decide
theorem np_one {w:World}{F:List Zae}{kb C S M MS X n c oc qc mc sc:Nat}{A OA QA:Option Addr}{inn part evs:Value}{xs:List UInt8}{iw un ci cu:Int}{began:Bool}(hn:n<=1000)
  (h:Sep w (Zaa kb 200 (Zaf C S M (.slice OA 1 oc) inn (.slice A n c) iw 2000 un began part evs)::Zad 5 1 (.slice A n c) n (bs xs)::Zad 3 1 (.slice OA 1 oc) 1 [.int .i64 1]::Zak M (Zaw (.pointer (some ⟨X,0,none⟩))) mc::
   Zaa X 313 (Zbn ci 2000 cu (.slice QA 4 qc) true true)::Zad 5 1 (.slice QA 4 qc) 4 (bs Zb6)::Zaa S 254 (Zbf MS 1)::Zak MS (Zaw (.int .i64 2)) sc::F)):
  CA 253 #[.pointer (some ⟨kb,0,none⟩)] w fun e w'=>e=.returned (.tuple #[])/\∃A' c' Q',Sep w' (Zaa kb 200 (Zaf C S M (.slice OA 0 oc) inn (.slice A' (n+13) c') iw 1996 un began part evs)::Zad 5 1 (.slice A' (n+13) c') (n+13) (bs (xs++bdyB))::Zad 3 1 (.slice OA 0 oc) 0 []::Zak M (Zaw (.pointer (some ⟨X,0,none⟩))) mc::
   Zaa X 313 (Zbn ci 1996 cu Q' false true)::Zad 5 1 (.slice QA 4 qc) 4 (bs Zb6)::Zaa S 254 (Zbf MS 1)::Zak MS (Zaw (.int .i64 4)) sc::F):=by
 obtain⟨og,rfl,o0,-,-,-⟩:=Zeh h (i:=2) rfl
 obtain⟨qg,rfl,-⟩:=h.rowAt (i:=5) rfl (by decide)
 have hqc:=h.cap (i:=5) rfl
 have h1:=h.newBlk 111 #[.pointer (some ⟨kb,0,none⟩)]
 have kX:=h1.at_ (i:=0) rfl
 have kK:=h1.at_ (i:=1) rfl
 have HC:=Hd (Ztf h1 (i:=3) rfl ⟨og,rfl⟩ (by decide) (by simp[Value.oneCell']))
 have qm:=min_four
 unfold Zaf at kK
 clear h h1 o0
 go_enter func253,ntmps253
 go_wp2_with fail
 refine Mo HC ?_
 rintro e w2 ⟨A',c',rfl,h2⟩
 obtain⟨rg,rfl,r0,-,-,-⟩:=Zeh h2 (i:=0) rfl
 clear kX kK HC
 have kX:=h2.at_ (i:=1) rfl
 have kK:=h2.at_ (i:=2) rfl
 have kC:=h2.at_ (i:=6) rfl
 have ql:=Zcr (P:=prog) (t:=196) (k:=.int .i64 1) underlying196 underlying3 rfl (h2.map_ (i:=5) rfl) (i:=0) (by rfl) false
 have H2:=Hd h2
 unfold Zaf at kK
 unfold Zbn at kC
 clear h2
 go_wp2
 refine wp_loop_rounds 2 ?_
 rw[rounds_succ]
 go_wp2
 refine wp_loop_rounds 2 ?_
 rw[rounds_succ]
 go_wp2
 go_quiet (first
  | (go_at_call 106;refine Calls.quiet_of_same (Ze0 ⟨kb,7,none⟩ 2000 _ ?_);exact kK.1 7)
  | (go_at_call 106;refine Calls.quiet_of_same (Ze0 ⟨X,1,none⟩ 2000 _ ?_);exact kC.1 1))
 obtain⟨w3,hw3⟩:=exl (w2.drewN nq)
 have h3:=H2.out.drewN nq
 rw[hw3]at h3⊢
 clear kX kK kC ql r0 H2 hw3 qm
 have kX:=h3.at_ (i:=1) rfl
 have kK:=h3.at_ (i:=2) rfl
 have kC:=h3.at_ (i:=6) rfl
 have H3:=Hd h3
 unfold Zaf at kK
 unfold Zbn at kC
 clear h3
 go_wp2_with fail
 refine(Zcy H3.out (i:=2) (b:=kb) (o:=7) (n:=2000) (k:=4) rfl rfl (by decide) (by decide)).mono ?_
 rintro e w4 ⟨rfl,h4⟩
 change Sep w4 (_::_::Zaa kb _ (Zaf C S M (.slice (some ⟨og,0,none⟩) 1 oc) inn (.slice A n c) iw 1996 un began part evs)::_)at h4
 clear kX kK kC
 have H4:=Hd h4
 clear h4 H3
 go_wp2_with fail
 refine(Zcy H4.out (i:=6) (b:=X) (o:=1) (n:=2000) (k:=4) rfl rfl (by decide) (by decide)).mono ?_
 rintro e w5 ⟨rfl,h5⟩
 change Sep w5 (_::_::_::_::_::_::Zaa X _ (Zbn ci 1996 cu (.slice (some ⟨qg,0,none⟩) 4 qc) true true)::_)at h5
 have kX:=h5.at_ (i:=1) rfl
 have kK:=h5.at_ (i:=2) rfl
 have kC:=h5.at_ (i:=6) rfl
 have n1:=h5.ne_ (i:=6) (i':=1) rfl rfl (by decide)
 have n2:=Ne.symm n1
 have n3:=h5.ne_ (i:=6) (i':=2) rfl rfl (by decide)
 have n4:=Ne.symm n3
 have H5:=Hd h5
 unfold Zaf at kK
 unfold Zbn at kC
 clear h5 H4
 by_cases hq1:qc=4
 ·subst hq1
  go_wp2_with fail
  obtain⟨w6,hw6⟩:=exl ((w5.setCell ⟨X,3,none⟩ (.slice (some ⟨qg,0,none⟩) 0 0)).setCell ⟨X,4,none⟩ (.bool false))
  have h6:=(H5.out.set_ (i:=6) rfl 3 (.slice (some ⟨qg,0,none⟩) 0 0)).set_ (i:=6) rfl 4 (.bool false)
  rw[hw6]at h6⊢
  change Sep w6 (_::_::_::_::_::_::Zaa X _ (Zbn ci 1996 cu (.slice (some ⟨qg,0,none⟩) 0 0) false true)::_)at h6
  clear kX kK kC n1 n2 n3 n4 H5 hw6
  have kX:=h6.at_ (i:=1) rfl
  have kK:=h6.at_ (i:=2) rfl
  have H6:=Hd h6
  unfold Zaf at kK
  clear h6
  refine(Zef H6.out (i:=8) (j:=9) rfl rfl).mono ?_
  rintro e w' ⟨rfl,rfl⟩
  go_wp2_with fail
  refine(Zee w6).mono ?_
  rintro e w' ⟨rfl,rfl⟩
  go_wp2_with fail
  refine(Zpi (.inr (.inr (.inr ⟨rfl,rfl⟩))) H6.out (i:=8) (j:=9) rfl rfl).mono ?_
  rintro e w7 ⟨rfl,h7⟩
  clear kX kK H6
  have kX:=h7.at_ (i:=1) rfl
  have HR:=Hd (Zag h7 (i:=7) rfl)
  have H7:=Hd ((h7.front 3 rfl).front 3 rfl)
  clear h7
  go_wp2_with fail
  refine(nsay bdyF Zow.1 (some ⟨qg,0,none⟩) 4 HR.out kb (xs:=xs) (by omega) H7.out).mono ?_
  rintro e w8 ⟨rfl,A8,c8,h8⟩
  rw[Zow.2]at h8
  clear kX HR H7
  have kX:=h8.at_ (i:=3) rfl
  have kK:=h8.at_ (i:=0) rfl
  have kC:=h8.at_ (i:=6) rfl
  have H8:=Hd (h8.drew.front 4 rfl)
  unfold Zbn at kC
  clear h8
  go_wp2
  rw[rounds_succ]
  go_wp2
  rw[rounds_succ]
  go_wp2
  have HF:=Hd (np_fn H8.out (i1:=4) (i2:=1) (i3:=5) (i4:=6) rfl rfl rfl rfl)
  go_region_with (go_at_call 108;refine(Zlh H8.out HF.out).mono ?_;rintro e w9 ⟨rfl,h9⟩;change Sep w9 (Zad _ 1 _ 0 []::Zaa kb _ _::_)at h9;have kK9:=h9.at_ (i:=1) rfl;have kX9:=h9.at_ (i:=4) rfl;have H9:=Hd h9;clear h9)
  all_goals
   go_wp2
   refine bodyPost_end (results_none rfl _ _ _) rfl ?_
   have h10:=H9.out.set_ (i:=1) rfl 3 (.slice (some ⟨og,0,none⟩) 0 oc)
   exact⟨rfl,A8,c8,_,(((h10.drop_ 3).drop_ 3).front 2 rfl).front 2 rfl⟩
 ·have hq2:4 < qc:=by omega
  go_wp2_with fail
  obtain⟨w6,hw6⟩:=exl ((w5.setCell ⟨X,3,none⟩ (.slice (some ⟨qg,4,none⟩) 0 (qc-4))).setCell ⟨X,4,none⟩ (.bool false))
  have h6:=(H5.out.set_ (i:=6) rfl 3 (.slice (some ⟨qg,4,none⟩) 0 (qc-4))).set_ (i:=6) rfl 4 (.bool false)
  rw[hw6]at h6⊢
  change Sep w6 (_::_::_::_::_::_::Zaa X _ (Zbn ci 1996 cu (.slice (some ⟨qg,4,none⟩) 0 (qc-4)) false true)::_)at h6
  clear kX kK kC n1 n2 n3 n4 H5 hw6
  have kX:=h6.at_ (i:=1) rfl
  have kK:=h6.at_ (i:=2) rfl
  have H6:=Hd h6
  unfold Zaf at kK
  clear h6
  refine(Zef H6.out (i:=8) (j:=9) rfl rfl).mono ?_
  rintro e w' ⟨rfl,rfl⟩
  go_wp2_with fail
  refine(Zee w6).mono ?_
  rintro e w' ⟨rfl,rfl⟩
  go_wp2_with fail
  refine(Zpi (.inr (.inr (.inr ⟨rfl,rfl⟩))) H6.out (i:=8) (j:=9) rfl rfl).mono ?_
  rintro e w7 ⟨rfl,h7⟩
  clear kX kK H6
  have kX:=h7.at_ (i:=1) rfl
  have HR:=Hd (Zag h7 (i:=7) rfl)
  have H7:=Hd ((h7.front 3 rfl).front 3 rfl)
  clear h7
  go_wp2_with fail
  refine(nsay bdyF Zow.1 (some ⟨qg,0,none⟩) qc HR.out kb (xs:=xs) (by omega) H7.out).mono ?_
  rintro e w8 ⟨rfl,A8,c8,h8⟩
  rw[Zow.2]at h8
  clear kX HR H7
  have kX:=h8.at_ (i:=3) rfl
  have kK:=h8.at_ (i:=0) rfl
  have kC:=h8.at_ (i:=6) rfl
  have H8:=Hd (h8.drew.front 4 rfl)
  unfold Zbn at kC
  clear h8
  go_wp2
  rw[rounds_succ]
  go_wp2
  rw[rounds_succ]
  go_wp2
  have HF:=Hd (np_fn H8.out (i1:=4) (i2:=1) (i3:=5) (i4:=6) rfl rfl rfl rfl)
  go_region_with (go_at_call 108;refine(Zlh H8.out HF.out).mono ?_;rintro e w9 ⟨rfl,h9⟩;change Sep w9 (Zad _ 1 _ 0 []::Zaa kb _ _::_)at h9;have kK9:=h9.at_ (i:=1) rfl;have kX9:=h9.at_ (i:=4) rfl;have H9:=Hd h9;clear h9)
  all_goals
   go_wp2
   refine bodyPost_end (results_none rfl _ _ _) rfl ?_
   have h10:=H9.out.set_ (i:=1) rfl 3 (.slice (some ⟨og,0,none⟩) 0 oc)
   exact⟨rfl,A8,c8,_,(((h10.drop_ 3).drop_ 3).front 2 rfl).front 2 rfl⟩
theorem vp_fn {w:World}{L:List Zae}{i1 i2 i3 i4 B kb C S M X:Nat}{cl:List (Int×Value)}{ord inn out part evs q:Value}{iw ow un ci co cu id:Int}{began en:Bool}(hv:Za8 cl id=some (ptr X))(h:Sep w L)(h1:L[i1]? =some (Zaa B 111 #[.pointer (some ⟨kb,0,none⟩)]))
  (h2:L[i2]? =some (Zaa kb 200 (Zaf C S M ord inn out iw ow un began part evs))) (h3:L[i3]? =some (Zan Zat M cl)) (h4:L[i4]? =some (Zaa X 313 (Zbn ci co cu q false en))):
  CA 302 #[.int .i64 id,.pointer (some ⟨B,0,none⟩)] w fun e w'=>e=.returned (.bool true)/\w=w':=by
 have k1:=h.at_ h1
 have k2:=h.at_ h2
 have k4:=h.at_ h4
 have ql:(Instr.lookup 196 (.map (some M)) (.int .i64 id) false).run prog w=.ok (.pointer (some ⟨X,0,none⟩)) w:=h.lookV (P:=prog) Zja h3 underlying196 underlying3 hv false
 unfold Zaf at k2
 unfold Zbn at k4
 clear h h1 h2 h3 h4 hv
 go_enter func302,ntmps302
 go_wp2
 go_ret
 exact⟨rfl,rfl⟩
theorem min4 {P:Program}(w:World)(ts:Array TypeId)(t:TypeId){a b c d:Int}(h1:¬b < a)(h2:¬c < a)(h3:¬d < a):(Builtin.min_ ts t #[.int .i64 a,.int .i64 b,.int .i64 c,.int .i64 d]).run P w=.ok (.int .i64 a) w:=by
 simp[Builtin.min_,Builtin.min2,h1,h2,h3]
theorem nsayM {w:World}{F:List Zae}(f:Frm){m:Nat}(hm:f.body.length=m)(hE:Zeq f=0)(A:Option Addr)(c:Nat)(hr:Zab w w.heap.size 1 A m (bs f.body))(K:Nat){d0 d1 d2 d3 d4 d6 d7 d8 d9 d10 d11 d12 d13:Value}{A0:Option Addr}{n0 k0:Nat}{xs:List UInt8}(hn:n0<=100000)
  (h:Sep w (Zaa K 200 #[d0,d1,d2,d3,d4,.slice A0 n0 k0,d6,d7,d8,d9,d10,d11,d12,d13]::Zad 5 1 (.slice A0 n0 k0) n0 (bs xs)::F)):
  CA 102 #[.pointer (some ⟨K,0,none⟩),.int .i64 f.K,.int .i64 f.F,.int .i64 f.S,.slice A m c] w fun e w'=>e=.returned (.tuple #[])/\∃A1 k1,Sep w' (Zaa K 200 #[d0,d1,d2,d3,d4,.slice A1 (n0+(Zbh f).length) k1,d6,d7,d8,d9,d10,d11,d12,d13]::Zad 5 1 (.slice A1 (n0+(Zbh f).length) k1) (n0+(Zbh f).length) (bs (xs++Zbh f))::F):=by
 subst hm
 exact nsay f hE A c hr K hn h
theorem vp_one {w:World}{F:List Zae}{kb C S M MS X n c oc qc k m ow co:Nat}{A OA QA:Option Addr}{inn part evs:Value}{xs bl:List UInt8}{cl sl:List (Int×Value)}{iw un ci cu last:Int}{began:Bool}(hk:k < 1000)(hl:sid k<=last)(hcv:Za8 cl (sid k)=some (ptr X))(hsv:Za8 sl (sid k)=some (.int .i64 2))(hsd:(sl.map (·.1)).Nodup)(hn:n<=100000)
  (hm0:1<=m) (hm1:m<=1000) (hbl:bl.length=m) (how:m<=ow) (how2:ow<=2000) (hco:m<=co) (hco2:co<=2000) (hfr:Zeq ⟨0,1,sid k,bl⟩=0)
  (h:Sep w (Zaa kb 200 (Zaf C S M (.slice OA 1 oc) inn (.slice A n c) iw ow un began part evs)::Zad 5 1 (.slice A n c) n (bs xs)::Zad 3 1 (.slice OA 1 oc) 1 [.int .i64 (sid k)]::Zan Zat M cl::
   Zaa X 313 (Zbn ci co cu (.slice QA m qc) true true)::Zad 5 1 (.slice QA m qc) m (bs bl)::Zaa S 254 (Zbf MS last)::Zan Zat MS sl::F)):
  CA 253 #[.pointer (some ⟨kb,0,none⟩)] w fun e w'=>e=.returned (.tuple #[])/\∃A' c' Q',Sep w' (Zaa kb 200 (Zaf C S M (.slice OA 0 oc) inn (.slice A' (n+(Zbh ⟨0,1,sid k,bl⟩).length) c') iw ((ow-m:Nat):Int) un began part evs)::Zad 5 1 (.slice A' (n+(Zbh ⟨0,1,sid k,bl⟩).length) c') (n+(Zbh ⟨0,1,sid k,bl⟩).length) (bs (xs++Zbh ⟨0,1,sid k,bl⟩))::Zad 3 1 (.slice OA 0 oc) 0 []::Zan Zat M cl::
   Zaa X 313 (Zbn ci ((co-m:Nat):Int) cu Q' false true)::Zad 5 1 (.slice QA m qc) m (bs bl)::Zaa S 254 (Zbf MS last)::Zan Zat MS (Ze3 sl (sid k) (.int .i64 4))::F):=by
 obtain⟨og,rfl,o0,-,-,-⟩:=Zeh h (i:=2) rfl
 obtain⟨qg,rfl,-⟩:=h.rowAt (i:=5) rfl (by omega)
 have hqc:=h.cap (i:=5) rfl
 have h1:=h.newBlk 111 #[.pointer (some ⟨kb,0,none⟩)]
 have kX:=h1.at_ (i:=0) rfl
 have kK:=h1.at_ (i:=1) rfl
 have HC:=Hd (Ztf h1 (i:=3) rfl ⟨og,rfl⟩ (by decide) (by simp[Value.oneCell']))
 have HPU:=Hd (fun(w5:World) L5 (h5:Sep w5 L5) (i6:L5[8]? =some (Zaa S 254 (Zbf MS last))) (i7:L5[9]? =some (Zan Zat MS sl))=>And.intro (Zgq k 2 hk hl hsv h5 i6 i7) (Ztw k 2 4 hk (.inr (.inr rfl)) (by decide) hl hsv hsd h5 i6 i7))
 have HB:=Hd (And.intro hbl (And.intro hfr (And.intro hn (And.intro hm0 (And.intro hm1 (And.intro how (And.intro how2 (And.intro hco hco2))))))))
 have e1:¬(m:Int)<=0:=by omega
 have e2:(0:Int) < (m:Int):=by omega
 have qm:=fun w=>min4 (P:=prog) w #[3,3,3,3] 3 (a:=(m:Int)) (b:=1024) (c:=(ow:Int)) (d:=(co:Int)) (by omega) (by omega) (by omega)
 obtain⟨id,hid⟩:=exl (sid k)
 rw[hid]at hcv HPU HB⊢
 obtain⟨fb,hfb⟩:=exl (Zbh ⟨0,1,id,bl⟩)
 have HFB:=Hd hfb
 have HCV:=Hd hcv
 rw[hid]at HC
 rw[hfb]
 obtain⟨ow2,how2'⟩:∃q:Int,((ow-m:Nat):Int)=q:=⟨_,rfl⟩
 obtain⟨co2,hco2'⟩:∃q:Int,((co-m:Nat):Int)=q:=⟨_,rfl⟩
 rw[how2',hco2']
 have HW:=Hd (And.intro how2' hco2')
 clear how2' hco2'
 unfold Zaf at kK
 clear h h1 o0 hfb hid hcv hsv hsd hk hl hn hbl how how2 hco hco2 hfr hm0 hm1
 go_enter func253,ntmps253
 go_wp2_with fail
 refine Mo HC ?_
 rintro e w2 ⟨A',c',rfl,h2⟩
 obtain⟨rg,rfl,r0,-,-,-⟩:=Zeh h2 (i:=0) rfl
 clear kX kK HC
 have kX:=h2.at_ (i:=1) rfl
 have kK:=h2.at_ (i:=2) rfl
 have kC:=h2.at_ (i:=6) rfl
 have ql:(Instr.lookup 196 (.map (some M)) (.int .i64 id) false).run prog w2=.ok (.pointer (some ⟨X,0,none⟩)) w2:=h2.lookV (P:=prog) Zja (i:=5) rfl underlying196 underlying3 HCV.out false
 have H2:=Hd h2
 unfold Zaf at kK
 unfold Zbn at kC
 clear h2
 go_wp2
 refine wp_loop_rounds 2 ?_
 rw[rounds_succ]
 go_wp2
 refine wp_loop_rounds 2 ?_
 rw[rounds_succ]
 go_wp2
 go_quiet (first
  | (go_at_call 106;refine Calls.quiet_of_same (Ze0 ⟨kb,7,none⟩ ow _ ?_);exact kK.1 7)
  | (go_at_call 106;refine Calls.quiet_of_same (Ze0 ⟨X,1,none⟩ co _ ?_);exact kC.1 1))
 obtain⟨w3,hw3⟩:=exl (w2.drewN nq)
 have h3:=H2.out.drewN nq
 rw[hw3]at h3⊢
 clear kX kK kC ql r0 H2 hw3 qm
 have kX:=h3.at_ (i:=1) rfl
 have kK:=h3.at_ (i:=2) rfl
 have kC:=h3.at_ (i:=6) rfl
 have H3:=Hd h3
 unfold Zaf at kK
 unfold Zbn at kC
 clear h3
 go_wp2_with fail
 refine(Zcy H3.out (i:=2) (b:=kb) (o:=7) (n:=ow) (k:=m) rfl rfl (by have:=HB.out;omega) (by have:=HB.out;omega)).mono ?_
 rintro e w4 ⟨rfl,h4⟩
 change Sep w4 (_::_::Zaa kb _ (Zaf C S M (.slice (some ⟨og,0,none⟩) 1 oc) inn (.slice A n c) iw ((ow-m:Nat):Int) un began part evs)::_)at h4
 rw[HW.out.1]at h4
 clear kX kK kC
 have H4:=Hd h4
 clear h4 H3
 go_wp2_with fail
 refine(Zcy H4.out (i:=6) (b:=X) (o:=1) (n:=co) (k:=m) rfl rfl (by have:=HB.out;omega) (by have:=HB.out;omega)).mono ?_
 rintro e w5 ⟨rfl,h5⟩
 change Sep w5 (_::_::_::_::_::_::Zaa X _ (Zbn ci ((co-m:Nat):Int) cu (.slice (some ⟨qg,0,none⟩) m qc) true true)::_)at h5
 rw[HW.out.2]at h5
 have kX:=h5.at_ (i:=1) rfl
 have kK:=h5.at_ (i:=2) rfl
 have kC:=h5.at_ (i:=6) rfl
 have n1:=h5.ne_ (i:=6) (i':=1) rfl rfl (by decide)
 have n2:=Ne.symm n1
 have n3:=h5.ne_ (i:=6) (i':=2) rfl rfl (by decide)
 have n4:=Ne.symm n3
 have H5:=Hd h5
 unfold Zaf at kK
 unfold Zbn at kC
 clear h5 H4
 have hqq:m=qc∨m < qc:=by omega
 rcases hqq with rfl | hq2
 go_wp2_with fail
 obtain⟨Q6,hQ6⟩:∃Q,Value.slice (some ⟨qg,0,none⟩) 0 0=Q:=⟨_,rfl⟩
 rw[hQ6]
 rotate_left
 go_wp2_with fail
 obtain⟨Q6,hQ6⟩:∃Q,Value.slice (some ⟨qg,m,none⟩) 0 (qc-m)=Q:=⟨_,rfl⟩
 rw[hQ6]
 all_goals
  clear hQ6
  obtain⟨w6,hw6⟩:=exl ((w5.setCell ⟨X,3,none⟩ Q6).setCell ⟨X,4,none⟩ (.bool false))
  have h6:=(H5.out.set_ (i:=6) rfl 3 Q6).set_ (i:=6) rfl 4 (.bool false)
  rw[hw6]at h6⊢
  change Sep w6 (_::_::_::_::_::_::Zaa X _ (Zbn ci co2 cu Q6 false true)::_)at h6
  clear kX kK kC n1 n2 n3 n4 H5 hw6
  have kX:=h6.at_ (i:=1) rfl
  have kK:=h6.at_ (i:=2) rfl
  have HS6:=Hd (HPU.out _ _ h6 rfl rfl).1
  have HP6:=Hd (HPU.out _ _ h6 rfl rfl).2
  unfold Zaf at kK
  clear h6 HPU
  refine Mo HS6 ?_
  rintro e w' ⟨rfl,rfl⟩
  go_wp2_with fail
  refine(Zee w6).mono ?_
  rintro e w' ⟨rfl,rfl⟩
  go_wp2_with fail
  refine Mo HP6 ?_
  rintro e w7 ⟨rfl,h7⟩
  simp only[List.set_cons_succ,List.set_cons_zero]at h7
  clear kX kK HS6 HP6
  have kX:=h7.at_ (i:=1) rfl
  have HR:=Hd (Zag h7 (i:=7) rfl)
  have H7:=Hd ((h7.front 3 rfl).front 3 rfl)
  have HSY:=Hd (fun cc=>nsayM ⟨0,1,id,bl⟩ HB.out.1 HB.out.2.1 (some ⟨qg,0,none⟩) cc HR.out kb (xs:=xs) HB.out.2.2.1 H7.out)
  rw[HFB.out]at HSY
  clear h7 HR H7
  go_wp2_with fail
  refine(show Calls _ _ _ _ _ from HSY.out _).mono ?_
  rintro e w8 ⟨rfl,A8,c8,h8⟩
  clear kX HSY
  have kX:=h8.at_ (i:=3) rfl
  have kK:=h8.at_ (i:=0) rfl
  have kC:=h8.at_ (i:=6) rfl
  have H8:=Hd (h8.drew.front 4 rfl)
  unfold Zbn at kC
  clear h8
  go_wp2
  rw[rounds_succ]
  go_wp2
  rw[rounds_succ]
  go_wp2
  have HF:=Hd (vp_fn HCV.out H8.out (i1:=4) (i2:=1) (i3:=5) (i4:=6) rfl rfl rfl rfl)
  go_region_with (go_at_call 108;refine(Zlh H8.out HF.out).mono ?_;rintro e w9 ⟨rfl,h9⟩;change Sep w9 (Zad _ 1 _ 0 []::Zaa kb _ _::_)at h9;have kK9:=h9.at_ (i:=1) rfl;have kX9:=h9.at_ (i:=4) rfl;have H9:=Hd h9;clear h9)
  all_goals
   go_wp2
   refine bodyPost_end (results_none rfl _ _ _) rfl ?_
   have h10:=H9.out.set_ (i:=1) rfl 3 (.slice (some ⟨og,0,none⟩) 0 oc)
   exact⟨rfl,A8,c8,_,(((h10.drop_ 3).drop_ 3).front 2 rfl).front 2 rfl⟩
theorem vn_send {w:World}{F:List Zae}{kb C S M MS X n c oc bc k m ow co:Nat}{A OA BA:Option Addr}{inn part evs:Value}{xs bl:List UInt8}{cl sl:List (Int×Value)}{iw un ci cu last:Int}{began:Bool}(hk:k < 1000)(hl:sid k<=last)(hcv:Za8 cl (sid k)=some (ptr X))(hsv:Za8 sl (sid k)=some (.int .i64 2))(hsd:(sl.map (·.1)).Nodup)(hn:n<=100000)
  (hm0:1<=m) (hm1:m<=1000) (hbl:bl.length=m) (how:m<=ow) (how2:ow<=2000) (hco:m<=co) (hco2:co<=2000) (hfr:Zeq ⟨0,1,sid k,bl⟩=0) (hr:Zab w w.heap.size 1 BA m (bs bl))
  (h:Sep w (Zaa kb 200 (Zaf C S M (.slice OA 0 oc) inn (.slice A n c) iw ow un began part evs)::Zad 5 1 (.slice A n c) n (bs xs)::Zad 3 1 (.slice OA 0 oc) 0 []::Zan Zat M cl::
   Zaa X 313 (Zbn ci co cu (.slice none 0 0) false false)::Zaa S 254 (Zbf MS last)::Zan Zat MS sl::F)):
  CA 185 #[.pointer (some ⟨kb,0,none⟩),.int .i64 (sid k),.slice BA m bc,.bool true] w fun e w'=>e=.returned .nilIface/\∃A' c' OA' oc',Sep w' (Zaa kb 200 (Zaf C S M (.slice OA' 0 oc') inn (.slice A' (n+(Zbh ⟨0,1,sid k,bl⟩).length) c') iw ((ow-m:Nat):Int) un began part evs)::Zad 5 1 (.slice A' (n+(Zbh ⟨0,1,sid k,bl⟩).length) c') (n+(Zbh ⟨0,1,sid k,bl⟩).length) (bs (xs++Zbh ⟨0,1,sid k,bl⟩))::Zad 3 1 (.slice OA' 0 oc') 0 []::Zan Zat M cl::
   Zaa S 254 (Zbf MS last)::Zan Zat MS (Ze3 sl (sid k) (.int .i64 4))::F):=by
 have kK:=h.at_ (i:=0) rfl
 have kC:=h.at_ (i:=4) rfl
 have n1:=h.ne_ (i:=0) (i':=4) rfl rfl (by decide)
 have n2:=Ne.symm n1
 have h1:=h.newBlk 23 #[.slice none 0 0,.slice BA m bc]
 have kC1:=h1.at_ (i:=5) rfl
 have hba:=(Below.refl w.heap.size w).alloc (Nat.le_refl _) (.cells #[.slice none 0 0,.slice BA m bc] 23)
 have hps:Ze1 (w.alloc (.cells #[.slice none 0 0,.slice BA m bc] 23)) 1 w.heap.size [⟨none,0,0,[]⟩,⟨BA,m,bc,bs bl⟩]:=by
  intro k hk
  match k,hk with
  | 0,_=>exact⟨(h1.at_ (i:=0) rfl).1 0,Zab.none_,by simp⟩
  | 1,_=>exact⟨(h1.at_ (i:=0) rfl).1 1,(hr.below hba).more hba.size,Zcj _⟩
 have hto:Zcm [⟨none,0,0,[]⟩,⟨BA,m,bc,bs bl⟩]=m:=by simp[Zcm]
 have hfl:Zql [⟨none,0,0,[]⟩,⟨BA,m,bc,bs bl⟩]=bs bl:=by simp[Zql]
 have HC:=Hd (Zfx _ _ _ hps (by rw[hto];omega) (by simp))
 rw[hto,hfl]at HC
 have HM:=Hd (Zrp k hk hl hsv h (i:=0) (i1:=5) (j:=6) rfl rfl rfl)
 have HO:=Hd (Zx0 h (i:=0) (j:=3) rfl rfl hcv)
 have HPO:=Hd (fun(w3:World) (F3:List Zae) (O3 Q3:Option Addr) (oc3 qc3:Nat)=>vp_one (w:=w3) (F:=F3) (kb:=kb) (C:=C) (S:=S) (M:=M) (MS:=MS) (X:=X) (n:=n) (c:=c) (oc:=oc3) (qc:=qc3) (k:=k) (m:=m) (ow:=ow) (co:=co) (A:=A) (OA:=O3) (QA:=Q3) (inn:=inn) (part:=part) (evs:=evs) (xs:=xs) (bl:=bl) (cl:=cl) (sl:=sl) (iw:=iw) (un:=un) (ci:=ci) (cu:=cu) (last:=last) (began:=began) hk hl hcv hsv hsd hn hm0 hm1 hbl how how2 hco hco2 hfr)
 have e2:(0:Int) < (m:Int):=by omega
 obtain⟨id,hid⟩:=exl (sid k)
 rw[hid]at HM HO HPO⊢
 have H:=Hd h
 have H1:=Hd h1
 unfold Zaf at kK
 unfold Zbn at kC kC1
 clear h h1 hps hba hto hfl hr hk hl hcv hsv hsd hn hm0 hm1 hbl how how2 hco hco2 hfr hid
 go_enter func185,ntmps185
 go_wp2_with fail
 refine Mo HM ?_
 rintro e w' ⟨rfl,rfl⟩
 go_wp2_with fail
 refine Mo HO ?_
 rintro e w' ⟨rfl,rfl⟩
 go_wp2_with fail
 refine Mo HC ?_
 rintro e w2 ⟨v,rfl,hown,hb2⟩
 change w2.ownsRow _ _ 1 v m (bs bl)at hown
 obtain⟨QA,qc,rfl⟩:=Zas hown
 have h2:=H1.out.newRow hb2 hown
 clear kK kC kC1 n1 n2 H HC H1 hown hb2 HM HO
 have kK:=h2.at_ (i:=2) rfl
 have kC:=h2.at_ (i:=6) rfl
 have n1:=h2.ne_ (i:=2) (i':=6) rfl rfl (by decide)
 have n2:=Ne.symm n1
 have H2:=Hd h2
 unfold Zaf at kK
 unfold Zbn at kC
 clear h2
 go_upto_region 10 with fail
 obtain⟨w3,hw3⟩:=exl (((w2.setCell ⟨X,3,none⟩ (.slice QA m qc)).setCell ⟨X,5,none⟩ (.bool true)).setCell ⟨X,4,none⟩ (.bool true))
 have h3:=((H2.out.set_ (i:=6) rfl 3 (.slice QA m qc)).set_ (i:=6) rfl 5 (.bool true)).set_ (i:=6) rfl 4 (.bool true)
 rw[hw3]at h3⊢
 change Sep w3 (_::_::_::_::_::_::Zaa X _ (Zbn ci co cu (.slice QA m qc) true true)::_)at h3
 clear kK kC n1 n2 H2 hw3
 have kK:=h3.at_ (i:=2) rfl
 have h4:=h3.newBlk 3 #[.int .i64 id]
 have H4:=Hd h4
 unfold Zaf at kK
 clear h3 h4
 go_wp2_with (at_builtin;refine Zck rfl _ _ 58 3 rfl underlying58 Zg0 rfl (by decide) (by decide) _ 0 [] H4.out (i:=5) rfl rfl _ _ (j:=0) rfl rfl (by intro u hu;simp at hu;subst hu;rfl) rfl (by decide) ?_;intro A5 c5 w5 h5 _;have kK5:=h5.at_ (i:=3) rfl;have H5:=Hd h5;unfold Zaf at kK5;clear h5)
 have h6:=H5.out.set_ (i:=3) rfl 3 (.slice A5 1 c5)
 change Sep _ (_::_::_::Zaa kb _ (Zaf C S M (.slice A5 1 c5) inn (.slice A n c) iw ow un began part evs)::_)at h6
 have h7:=Sep.ordN h6 10 [3,4,5,6,7,1,8,9] rfl (by decide)
 simp only[List.set_cons_succ,List.set_cons_zero,Zbo,Zam,Zbd,erS,erZ,List.cons_append,List.nil_append,List.drop_succ_cons,List.drop_zero]at h7
 have HPP:=Hd (HPO.out _ _ _ _ _ _ h7)
 clear kK kK5 H4 H5 h6 h7 HPO
 refine Mo HPP ?_
 rintro e w8 ⟨rfl,A8,c8,Q8,h8⟩
 have h9:=Sep.ordN h8 8 [0,1,2,3,6,7] rfl (by decide)
 simp only[Zbo,Zbd,Zam,erS,erZ]at h9
 have H8:=Hd h9
 clear HPP h8 h9
 go_wp2
 go_ret
 exact⟨rfl,A8,c8,A5,c5,H8.out⟩
theorem csayM {w:World}{F:List Zae}(f:Frm){m:Nat}(hm:f.body.length=m)(hE:Zeq f=0)(A:Option Addr)(c:Nat)(hr:Zab w w.heap.size 1 A m (bs f.body))(K:Nat){d0 d1 d2 d3 d5 d6 d7 d8 d9 d10 d11 d12 d13:Value}{A0:Option Addr}{n0 k0:Nat}{xs:List UInt8}(hn:n0<=100000)
  (h:Sep w (Zaa K 126 #[d0,d1,d2,d3,.slice A0 n0 k0,d5,d6,d7,d8,d9,d10,d11,d12,d13]::Zad 5 1 (.slice A0 n0 k0) n0 (bs xs)::F)):
  CA 55 #[.pointer (some ⟨K,0,none⟩),.int .i64 f.K,.int .i64 f.F,.int .i64 f.S,.slice A m c] w fun e w'=>e=.returned (.tuple #[])/\∃A1 k1,Sep w' (Zaa K 126 #[d0,d1,d2,d3,.slice A1 (n0+(Zbh f).length) k1,d5,d6,d7,d8,d9,d10,d11,d12,d13]::Zad 5 1 (.slice A1 (n0+(Zbh f).length) k1) (n0+(Zbh f).length) (bs (xs++Zbh f))::F):=by
 subst hm
 exact csay f hE A c hr K hn h
theorem vcp_fn {w:World}{L:List Zae}{i1 i2 i3 X K M Y:Nat}{C:Nat}{cl:List (Int×Value)}{ord inn out part:Value}{id win last on:Int}{ends:Bool}{n:Int}{q reply body:Value}{got whole:Bool}(hv:Za8 cl id=some (ptr Y))(h:Sep w L)(h1:L[i1]? =some (Zaa X 52 #[.pointer (some ⟨K,0,none⟩)]))
  (h2:L[i2]? =some (Zaa K 126 (Zau C M ord inn out win last part on ends))) (h3:L[i3]? =some (Zan Zat M cl)) {i4:Nat} (h4:L[i4]? =some (Zaa Y 130 (Zay n q false reply got body whole))):
  CA 109 #[.int .i64 id,.pointer (some ⟨X,0,none⟩)] w fun e w'=>e=.returned (.bool true)/\w=w':=by
 have k1:=h.at_ h1
 have k2:=h.at_ h2
 have k4:=h.at_ h4
 have q:(Instr.lookup 121 (.map (some M)) (.int .i64 id) false).run prog w=.ok (.pointer (some ⟨Y,0,none⟩)) w:=h.lookV (P:=prog) Zja h3 underlying121 underlying3 hv false
 unfold Zau at k2
 unfold Zay at k4
 clear h h1 h2 h3 h4 hv
 go_enter func109,ntmps109
 go_wp2
 go_ret
 exact⟨rfl,rfl⟩
def VcSt (bx kb C M X n c oc qc og qg m:Nat)(A:Option Addr)(cl:List (Int×Value))(id la ow ow2 co co2:Int)(xs bl fb:List UInt8)(F:List Zae)(k:Nat)(wr:World):Prop:=
 (k=0/\Sep wr (Zaa bx 52 #[.pointer (some ⟨kb,0,none⟩)]::Zaa kb 126 (Zau C M (.slice (some ⟨og,0,none⟩) 1 oc) (.slice none 0 0) (.slice A n c) ow la (.slice none 0 0) 0 false)::Zad 5 1 (.slice A n c) n (bs xs)::
   Zad 3 1 (.slice (some ⟨og,0,none⟩) 1 oc) 1 [.int .i64 id]::Zan Zat M cl::Zaa X 130 (Zay co (.slice (some ⟨qg,0,none⟩) m qc) true (.slice none 0 0) false (.slice none 0 0) false)::Zad 5 1 (.slice (some ⟨qg,0,none⟩) m qc) m (bs bl)::F))∨
 (k=1/\∃Q' A' c',Sep wr (Zaa kb 126 (Zau C M (.slice (some ⟨og,0,none⟩) 1 oc) (.slice none 0 0) (.slice A' (n+fb.length) c') ow2 la (.slice none 0 0) 0 false)::Zad 5 1 (.slice A' (n+fb.length) c') (n+fb.length) (bs (xs++fb))::Zaa bx 52 #[.pointer (some ⟨kb,0,none⟩)]::
   Zad 3 1 (.slice (some ⟨og,0,none⟩) 1 oc) 1 [.int .i64 id]::Zan Zat M cl::Zaa X 130 (Zay co2 Q' false (.slice none 0 0) false (.slice none 0 0) false)::Zad 5 1 (.slice (some ⟨qg,0,none⟩) m qc) m (bs bl)::F))
theorem vcp_one {w:World}{F:List Zae}{kb C M X n c oc qc m ow:Nat}{A OA QA:Option Addr}{xs bl:List UInt8}{cl:List (Int×Value)}{id la:Int}(hcv:Za8 cl id=some (ptr X))(hn:n<=100000)(hm0:1<=m)(hm1:m<=1000)(hbl:bl.length=m)(how:m<=ow)(how2:ow<=2000)(hfr:Zeq ⟨0,1,id,bl⟩=0)
  (h:Sep w (Zaa kb 126 (Zau C M (.slice OA 1 oc) (.slice none 0 0) (.slice A n c) ow la (.slice none 0 0) 0 false)::Zad 5 1 (.slice A n c) n (bs xs)::
   Zad 3 1 (.slice OA 1 oc) 1 [.int .i64 id]::Zan Zat M cl::Zaa X 130 (Zay 2000 (.slice QA m qc) true (.slice none 0 0) false (.slice none 0 0) false)::Zad 5 1 (.slice QA m qc) m (bs bl)::F)):
  CA 58 #[.pointer (some ⟨kb,0,none⟩)] w fun e w'=>e=.returned (.tuple #[])/\∃A' c',Sep w' (calX X::Zaa kb 126 (Zau C M (.slice OA 0 oc) (.slice none 0 0) (.slice A' (n+(Zbh ⟨0,1,id,bl⟩).length) c') ((ow-m:Nat):Int) la (.slice none 0 0) 0 false)::Zad 5 1 (.slice A' (n+(Zbh ⟨0,1,id,bl⟩).length) c') (n+(Zbh ⟨0,1,id,bl⟩).length) (bs (xs++Zbh ⟨0,1,id,bl⟩))::
   Zad 3 1 (.slice OA 0 oc) 0 []::Zan Zat M cl::F):=by
 obtain⟨og,rfl,o0,-,-,-⟩:=Zeh h (i:=2) rfl
 obtain⟨qg,rfl,-⟩:=h.rowAt (i:=5) rfl (by omega)
 have hqc:=h.cap (i:=5) rfl
 have hnKX:=h.ne_ (i:=0) (i':=4) rfl rfl (by decide)
 have hnXK:=Ne.symm hnKX
 have h1:=h.newBlk 52 #[.pointer (some ⟨kb,0,none⟩)]
 have kX:=h1.at_ (i:=0) rfl
 have kK:=h1.at_ (i:=1) rfl
 have k4:=h1.at_ (i:=5) rfl
 have o1:=Zaj ((Below.refl w.heap.size w).alloc (Nat.le_refl _) (.cells #[.pointer (some ⟨kb,0,none⟩)] 52)) o0
 have HCV:=Hd (fun(w5:World) L5 (h5:Sep w5 L5) (i5:Nat) (hi5:L5[i5]? =some (Zan Zat M cl))=>(show(Instr.lookup 121 (.map (some M)) (.int .i64 id) false).run prog w5=.ok (.pointer (some ⟨X,0,none⟩)) w5 from h5.lookV (P:=prog) Zja hi5 underlying121 underlying3 hcv false))
 have HV:=Hd hcv
 have q:=HCV.out _ _ h1 4 rfl
 have HB:=Hd (And.intro hbl (And.intro hfr (And.intro hn (And.intro hm0 (And.intro hm1 (And.intro how how2))))))
 have e1:¬(m:Int)<=0:=by omega
 have e2:(0:Int) < (m:Int):=by omega
 have qm:=fun w=>min4 (P:=prog) w #[3,3,3,3] 3 (a:=(m:Int)) (b:=1024) (c:=(ow:Int)) (d:=2000) (by omega) (by omega) (by omega)
 obtain⟨fb,hfb⟩:=exl (Zbh ⟨0,1,id,bl⟩)
 have HFB:=Hd hfb
 rw[hfb]
 obtain⟨ow2,how2'⟩:∃q:Int,((ow-m:Nat):Int)=q:=⟨_,rfl⟩
 obtain⟨co2,hco2'⟩:∃q:Int,((2000-m:Nat):Int)=q:=⟨_,rfl⟩
 rw[how2']
 have HW:=Hd (And.intro how2' hco2')
 have HO:=Hd (show VcSt w.heap.size kb C M X n c oc qc og qg m A cl id la ow ow2 2000 co2 xs bl fb F 0 _ from .inl ⟨rfl,h1⟩)
 unfold Zau at kK
 unfold Zay at k4
 clear h h1 o0 hcv hn hbl how how2 hfr hfb how2' hco2' hm1 hm0
 go_enter func58,ntmps58
 go_wp2
 refine wp_loop_rounds 2 ?_
 rw[rounds_succ]
 go_wp2
 clear kX kK k4 o1 q
 go_loopg [7] 1 (fun mm v7 wr=>∃k,mm+k=1/\Hid (VcSt w.heap.size kb C M X n c oc qc og qg m A cl id la ow ow2 2000 co2 xs bl fb F k wr))
 case atStart=>exact⟨0,rfl,HO⟩
 case round=>
  clear HO
  obtain⟨k,hk,HS⟩:=hrel
  obtain⟨rfl,h1⟩ | ⟨rfl,Q',A',c',h6⟩:=HS.out
  ·have kX:=h1.at_ (i:=0) rfl
   have kK:=h1.at_ (i:=1) rfl
   have k4:=h1.at_ (i:=5) rfl
   have H1:=Hd h1
   unfold Zau at kK
   unfold Zay at k4
   clear h1 HS
   go_wp2
   go_quiet (first
    | (go_at_call 106;refine Calls.quiet_of_same (Ze0 ⟨kb,5,none⟩ ow _ ?_);exact kK.1 5)
    | (go_at_call 106;refine Calls.quiet_of_same (Ze0 ⟨X,0,none⟩ 2000 _ ?_);exact k4.1 0))
   have H2:=Hd (H1.out.drewN nq)
   clear H1 kX kK k4 qm
   have kX:=H2.out.at_ (i:=0) rfl
   have kK:=H2.out.at_ (i:=1) rfl
   have k4:=H2.out.at_ (i:=5) rfl
   unfold Zau at kK
   unfold Zay at k4
   go_wp2_with fail
   refine(Zcy H2.out (i:=1) (b:=kb) (o:=5) (n:=ow) (k:=m) rfl rfl (by have:=HB.out;omega) (by have:=HB.out;omega)).mono ?_
   rintro e w3 ⟨rfl,h3⟩
   change Sep w3 (_::Zaa kb _ (Zau C M (.slice (some ⟨og,0,none⟩) 1 oc) (.slice none 0 0) (.slice A n c) ((ow-m:Nat):Int) la (.slice none 0 0) 0 false)::_)at h3
   rw[HW.out.1]at h3
   have H3:=Hd h3
   clear kX kK k4
   have kX:=h3.at_ (i:=0) rfl
   have k4:=h3.at_ (i:=5) rfl
   unfold Zay at k4
   clear h3 H2
   go_wp2_with fail
   refine(Zcy H3.out (i:=5) (b:=X) (o:=0) (n:=2000) (k:=m) rfl rfl (by have:=HB.out;omega) (by decide)).mono ?_
   rintro e w4 ⟨rfl,h4⟩
   change Sep w4 (_::_::_::_::_::Zaa X _ (Zay ((2000-m:Nat):Int) (.slice (some ⟨qg,0,none⟩) m qc) true (.slice none 0 0) false (.slice none 0 0) false)::_)at h4
   rw[HW.out.2]at h4
   have k4:=h4.at_ (i:=5) rfl
   have kK:=h4.at_ (i:=1) rfl
   have kX:=h4.at_ (i:=0) rfl
   have n1:X≠w.heap.size:=h4.ne_ (i:=5) (i':=0) rfl rfl (by decide)
   have n2:w.heap.size≠X:=Ne.symm n1
   have H4:=Hd h4
   unfold Zau at kK
   unfold Zay at k4
   clear h4 H3
   have hqq:m=qc∨m < qc:=by omega
   rcases hqq with rfl | hq2
   go_wp2_with fail
   obtain⟨Q6,hQ6⟩:∃Q,Value.slice (some ⟨qg,0,none⟩) 0 0=Q:=⟨_,rfl⟩
   rw[hQ6]
   rotate_left
   go_wp2_with fail
   obtain⟨Q6,hQ6⟩:∃Q,Value.slice (some ⟨qg,m,none⟩) 0 (qc-m)=Q:=⟨_,rfl⟩
   rw[hQ6]
   all_goals
    clear hQ6
    obtain⟨w5,hw5⟩:=exl ((w4.setCell ⟨X,1,none⟩ Q6).setCell ⟨X,2,none⟩ (.bool false))
    have h5:=(H4.out.set_ (i:=5) rfl 1 Q6).set_ (i:=5) rfl 2 (.bool false)
    rw[hw5]at h5⊢
    change Sep w5 (_::_::_::_::_::Zaa X _ (Zay co2 Q6 false (.slice none 0 0) false (.slice none 0 0) false)::_)at h5
    have HR:=Hd (Zag h5 (i:=6) rfl)
    have HSY:=Hd (fun cc=>csayM ⟨0,1,id,bl⟩ HB.out.1 HB.out.2.1 (some ⟨qg,0,none⟩) cc HR.out kb (xs:=xs) HB.out.2.2.1 ((h5.front 2 rfl).front 2 rfl))
    rw[HFB.out]at HSY
    clear kX kK k4 n1 n2 H4 h5 hw5 HR
    refine(show Calls _ _ _ _ _ from HSY.out _).mono ?_
    rintro e w6 ⟨rfl,A',c',h6⟩
    have H6:=Hd (show VcSt _ kb C M X n c oc _ og qg m A cl id la ow ow2 2000 co2 xs bl fb F 1 w6 from .inr ⟨rfl,_,A',c',h6⟩)
    clear h6 HSY
    go_wp2
    go_roundg (gk-1)
    case measure=>omega
    case rel=>exact⟨1,by omega,H6.out⟩
  ·have k4:=h6.at_ (i:=5) rfl
   have kK:=h6.at_ (i:=0) rfl
   have kX:=h6.at_ (i:=2) rfl
   have H7:=Hd (h6.drew.front 3 rfl)
   unfold Zau at kK
   unfold Zay at k4
   clear h6 HS qm
   go_wp2
   rw[rounds_succ]
   go_wp2
   have HF:=Hd (vcp_fn HV.out H7.out (i1:=3) (i2:=1) (i3:=4) (i4:=5) rfl rfl rfl rfl)
   go_region_with (go_at_call 108;refine(Zqs H7.out HF.out).mono ?_;rintro e w8 ⟨rfl,h8⟩;change Sep w8 (Zad _ 1 _ 0 []::Zaa kb _ _::_)at h8;have kK8:=h8.at_ (i:=1) rfl;have kX8:=h8.at_ (i:=3) rfl;have H8:=Hd h8;unfold Zau at kK8;clear h8)
   all_goals
    go_wp2
    refine bodyPost_end (results_none rfl _ _ _) rfl ?_
    refine⟨rfl,A',c',?_⟩
    have h9:=H8.out.set_ (i:=1) rfl 2 (.slice (some ⟨og,0,none⟩) 0 oc)
    have h10:=Sep.ordN h9 7 [5,1,2,0,4] rfl (by decide)
    simp only[List.set_cons_succ,List.set_cons_zero,Zbo,Zam,Zbd,erS,erZ,List.cons_append,List.nil_append,List.drop_succ_cons,List.drop_zero]at h10
    exact h10.weak (fun hh=>⟨_,_,_,_,_,hh⟩) (fun k hk=>hk)
theorem flist_no (m p h:List UInt8)(fs:List Fld)(nb:Nat)(hE:Zf8 m p h fs nb≠0)(hm:m.length<=9223372036854775807)(hp:p.length<=9223372036854775807)(hh:h.length<=9223372036854775807)(hf:Zjm fs)(hfl:fs.length<=140737488355328)(FA:Option Addr)(fn fc:Nat)(hfn:fn=fs.length)(BA:Option Addr)(bc:Nat)(w:World)(hr:Zab w w.heap.size 2 FA fs.length (fvs fs)):
  CA 8 #[.agg (Zcf m p h FA fn fc BA nb bc)] w fun e w'=>∃ty v,e=.returned (.tuple #[.slice none 0 0,.iface ty v])/\Below w.heap.size w w':=by
 subst hfn
 obtain⟨W,hW⟩:=exl (w.alloc (.cells (Zcf m p h FA fs.length fc BA nb bc) 25))
 have hb:=Blk.new w 25 (Zcf m p h FA fs.length fc BA nb bc)
 have hba:Below w.heap.size w (w.alloc (.cells (Zcf m p h FA fs.length fc BA nb bc) 25)):=(Below.refl _ _).alloc (Nat.le_refl _) _
 rw[hW]at hb hba
 have d0:=hb.cell 0
 have d1:=hb.cell 1
 have d2:=hb.cell 2
 have d3:=hb.cell 3
 have d4:=hb.cell 4
 have dl:=hb.lt
 have HC:=Hd (show CA 26 #[.agg (Zcf m p h FA fs.length fc BA nb bc)] W fun e w'=>e=.returned (.iface 95 (.int .i64 ((Zf8 m p h fs nb:Nat):Int)))/\Below W.heap.size W w' from by
  have h0:=Zex m p h fs hm hp hh hf hfl FA fs.length fc rfl BA nb bc W ((hr.below hba).more hba.size)
  rw[Zbe hE]at h0
  exact h0)
 have HBA:=Hd hba
 clear hE hm hp hh hf hfl hr hb hba
 go_enter func8,ntmps8
 go_wp2_with fail
 refine Mo HC ?_
 rintro e w1 ⟨rfl,hb1⟩
 have HB1:=Hd (HBA.out.trans (hb1.mono HBA.out.size))
 clear hb1
 go_wp2
 go_ret2
 exact⟨_,_,rfl,HB1.out⟩
def hdF (id:Int)(blk:List UInt8)(fin:Bool)(m i:Nat):Frm:=⟨if i=0 then 1 else 2,(if i=0 then(if fin then 1 else 0)else 0)+(if i+1=m then 4 else 0),id,pcB blk i⟩
def hdM (blk:List UInt8):Nat:=max 1 (Zaq blk.length)
def hdL (id:Int)(blk:List UInt8)(fin:Bool)(j:Nat):List UInt8:=(List.range j).flatMap fun i=>Zbh (hdF id blk fin (hdM blk) i)
theorem Zii (id:Int)(blk:List UInt8)(fin:Bool)(j:Nat):hdL id blk fin (j+1)=hdL id blk fin j++Zbh (hdF id blk fin (hdM blk) j):=by
 unfold hdL
 rw[List.range_succ,List.flatMap_append]
 simp
theorem Zz5 (k:Nat)(hk:k < 1000)(blk:List UInt8)(fin:Bool)(m i:Nat):Zeq (hdF (sid k) blk fin m i)=0:=by
 have h1:=Zek blk i
 have h2:Zmd (hdF (sid k) blk fin m i):=by
  unfold Zmd hdF sid
  refine⟨?_,?_,?_,?_,?_,?_⟩
  all_goals simp only
  all_goals first | omega | (split <;> omega) | (repeat' split) <;> omega
 unfold Zeq
 rw[if_pos h2,if_neg]
 show¬1024 < (pcB blk i).length
 omega
theorem Zoe (id:Int)(blk:List UInt8)(fin:Bool):∀j,(hdL id blk fin j).length<=1033*j
 | 0=>by simp[hdL]
 | j+1=>by
  rw[Zii,List.length_append]
  have h1:=Zoe id blk fin j
  have h2:=Zek blk j
  have h3:(Zbh (hdF id blk fin (hdM blk) j)).length<=9+(pcB blk j).length:=by
   by_cases h:Zeq (hdF id blk fin (hdM blk) j)=0
   ·have:=Zbu h
    simp only[hdF]at this⊢
    omega
   ·unfold Zbh
    rw[if_neg h]
    simp
  omega
end
end Go.Proofs.YtbgnggkgmeagkaaGreatDoor
