/-
  A part of the proof of TopAlike: each theorem states its own conditions.
-/
import Derived.Test.YtbgnggkgmeagkaaGreatDoorMTopAlike29
set_option linter.unusedSimpArgs false
set_option linter.unusedVariables false
set_option maxRecDepth 100000
set_option maxHeartbeats 16000000
namespace Go.Proofs.YtbgnggkgmeagkaaGreatDoor
open Go.Proofs.Tryz
section
open Go.RowKit Go.Shelf
theorem ge_came {w w0:World}{F:List Zae}{io g kb C S M MS X Li LM LM' St CM JM Y fc bc rc cm mc sc:Nat}{FA BA RA:Option Addr}{log ord inn out part evs q:Value}{ow co:Int}{began wt en:Bool}(hP:Pow w0)(hio:F[io]? =some (Zel w0))
  (h:Sep w (Zaa g 120 (Za7 kb (.slice RA 1 rc) Li St CM JM 0 log)::Zak CM (Zaw (.pointer (some ⟨Y,0,none⟩))) cm::Zaa Y 146 (Zdl (.slice FA 3 fc) (.slice none 0 0))::Zad 41 2 (.slice FA 3 fc) 3 (fvs Ziu)::
   Zaa Li 193 #[.int .i64 10,.int .i64 10,.map (some LM),.map (some LM')]::Zak LM' #[] 0::Zak LM #[] 0::Zaa St 203 #[.slice none 0 0]::Zad 47 3 (.slice RA 1 rc) 1 rtV::Zak JM #[] 0::
   Zaa kb 200 (Zaf C S M ord inn out 1999 ow 1 began part evs)::Zak M (Zaw (.pointer (some ⟨X,0,none⟩))) mc::Zaa X 313 (Zbn 1999 co 1 q wt en)::Zaa S 254 (Zbf MS 1)::Zak MS (Zaw (.int .i64 2)) sc::Zad 5 1 (.slice BA 1 bc) 1 (bs [120])::F)):
  CA 112 #[.pointer (some ⟨g,0,none⟩),.agg (evV 2 1 0 (.slice none 0 0) (.slice BA 1 bc) true)] w fun e w'=>e=.returned (.tuple #[])/\∃fa fc' ba bc' ad jc D dc,Sep w' (Zaa g 120 (Za7 kb (.slice RA 1 rc) Li St CM JM 1 log)::Zak CM (Zaw (.pointer (some ⟨Y,0,none⟩))) cm::
   Zaa Y 146 (Zd0 (.slice FA 3 fc) (.slice D 1 dc) (.string ⟨#[80,79,83,84]⟩) (.string ⟨#[47,112]⟩) (.string ⟨#[104]⟩) (.slice fa 0 fc') (.slice ba 1 bc') 0)::Zak JM (Zaw (.agg #[.int .i64 1,.string ⟨#[97,108,108]⟩,.slice (some ad) 39 jc])) 1::Zir ad Zf1::
   Zaa kb 200 (Zaf C S M ord inn out 1999 ow 0 began part evs)::Zak M (Zaw (.pointer (some ⟨X,0,none⟩))) mc::Zaa X 313 (Zbn 1999 co 0 q wt en)::Zaa S 254 (Zbf MS 1)::Zak MS (Zaw (.int .i64 2)) sc::F):=by
 have h1:=h.newBlk 215 (evV 2 1 0 (.slice none 0 0) (.slice BA 1 bc) true)
 unfold evV at h1
 have kX:=h1.at_ (i:=0) rfl
 have kG:=h1.at_ (i:=1) rfl
 have ql:=Zfg h1.drew (i:=2) rfl
 have H1:=Hd h1
 unfold Za7 at kG
 clear h h1
 unfold evV
 go_enter func112,ntmps112
 go_wp2
 go_region
 obtain⟨w2,hw2⟩:=exl ((w.alloc (.cells #[.int .i64 2,.int .i64 1,.int .i64 0,.slice none 0 0,.slice BA 1 bc,.bool true] 215)).drew)
 have h2:=H1.out.drew
 rw[hw2]at h2⊢
 clear kX kG ql H1 hw2
 have kX:=h2.at_ (i:=0) rfl
 have kY:=h2.at_ (i:=3) rfl
 have H2:=Hd h2
 unfold Zdl Zd0 at kY
 clear h2
 go_wp2
 go_quiet (fail)
 obtain⟨w3,hw3⟩:=exl (w2.drewN nq)
 have h3:=(H2.out.drewN nq)
 rw[hw3]at h3⊢
 have h4:=h3.nilRow 5 1
 clear kX kY H2 hw3 h3
 have kX:=h4.at_ (i:=1) rfl
 have kY:=h4.at_ (i:=4) rfl
 have n1:=h4.ne_ (i:=1) (i':=4) rfl rfl (by decide)
 have n2:=Ne.symm n1
 have HR:=Hd (Zag h4.drew (i:=17) rfl)
 have H4:=Hd h4.drew
 unfold Zdl Zd0 at kY
 clear h4
 go_wp2
 go_region_law (refine Zcq rfl _ _ 23 5 rfl underlying23 Zbz rfl (by decide) (by decide) _ 0 [] H4.out (i:=0) rfl (by simp[Act.eval,Act.put]) BA 1 bc (bs [120]) HR.out (Zcj _) (by simp[Act.eval,Act.put]) (by decide) ?_;intro D dc w5 h5 _;have kX5:=h5.at_ (i:=1) rfl;have kY5:=h5.at_ (i:=4) rfl;have H5:=Hd h5;unfold Zdl Zd0 at kY5;clear h5)
 all_goals
  obtain⟨w6,hw6⟩:=exl (w5.setCell ⟨Y,1,none⟩ (.slice D 1 dc))
  have h6:=H5.out.set_ (i:=4) rfl 1 (.slice D 1 dc)
  rw[hw6]at h6⊢
  change Sep w6 (Zad _ 1 (.slice D 1 dc) 1 (bs [120])::_::_::_::Zaa Y _ (Zdl (.slice FA 3 fc) (.slice D 1 dc))::_)at h6
  clear kX kX5 kY kY5 n1 n2 HR H4 H5 hw6
  have f0:w6.cell? ⟨g,0,none⟩=some (.pointer (some ⟨kb,0,none⟩)):=(h6.at_ (i:=2) rfl).1 0
  have f1:w6.cell? ⟨w.heap.size,1,none⟩=some (.int .i64 1):=(h6.at_ (i:=1) rfl).1 1
  have f2:w6.cell? ⟨w.heap.size,4,none⟩=some (.slice BA 1 bc):=(h6.at_ (i:=1) rfl).1 4
  have l1:=(h6.at_ (i:=2) rfl).2.2
  have l2:=(h6.at_ (i:=1) rfl).2.2
  have H6:=Hd (((((h6.drew.front 16 rfl).front 16 rfl).front 16 rfl).front 16 rfl).front 16 rfl)
  clear h6
  go_wp2
  go_region_held3 (fun w'=>w'.cell? ⟨g,0,none⟩=some (.pointer (some ⟨kb,0,none⟩))/\w'.cell? ⟨w.heap.size,1,none⟩=some (.int .i64 1)/\w'.cell? ⟨w.heap.size,4,none⟩=some (.slice BA 1 bc)) (first | (with_reducible exact⟨f0,f1,f2⟩) | (with_reducible exact⟨g0,g1,g2⟩) | go_keep)
   (first | (go_at_call 166;refine(cn_used1 H6.out).mono ?_;rintro e w7 ⟨rfl,h7⟩;have kX7:=h7.at_ (i:=6) rfl;have kG7:=h7.at_ (i:=7) rfl;have g0:w7.cell? ⟨g,0,none⟩=some (.pointer (some ⟨kb,0,none⟩)):=kG7.1 0;have g1:w7.cell? ⟨w.heap.size,1,none⟩=some (.int .i64 1):=kX7.1 1;have g2:w7.cell? ⟨w.heap.size,4,none⟩=some (.slice BA 1 bc):=kX7.1 4;have H7:=Hd h7;clear h7 kG7))
  have h8:=(((((H7.out.drop_ 6).front 15 rfl).front 15 rfl).front 15 rfl).front 15 rfl).front 15 rfl
  have h9:=(((((h8.front 15 rfl).front 11 rfl).front 15 rfl).front 15 rfl).front 15 rfl).front 15 rfl
  have H9:=Hd h9
  clear f0 f1 f2 l1 l2 g0 g1 g2 H6 h8 h9
  go_wp2_with fail
  refine(ga_whole hP (io:=io+6) hio H9.out).mono ?_
  rintro e w8 ⟨rfl,fa,fc2,ba,bc2,ad,jc,h8⟩
  have H8:=Hd h8
  clear h8 H9 H7 kX7
  go_wp2
  refine bodyPost_end (results_none rfl _ _ _) rfl ?_
  exact⟨rfl,fa,fc2,ba,bc2,ad,jc,D,dc,H8.out.drop_ 10⟩
theorem nf_short {w:World}{F:List Zae}{kb C S M n c k bc:Nat}{A B:Option Addr}{ord out part evs:Value}{xs ys:List UInt8}{iw ow un:Int}{began:Bool}
  (hn:n=xs.length) (hk:k=ys.length) (hs:n+k<=1000) (hB:∀w',Sep w' F->Zab w' w'.heap.size 1 B k (bs ys)) (hS:Zdy (xs++ys)=(Zhh,0,8))
  (h:Sep w (Zaa kb 200 (Zaf C S M ord (.slice A n c) out iw ow un began part evs)::Zad 5 1 (.slice A n c) n (bs xs)::F)):
  CA 111 #[.pointer (some ⟨kb,0,none⟩),.slice B k bc] w fun e w'=>e=.returned (.slice none 0 0)/\
   ∃A' c',Sep w' (Zaa kb 200 (Zaf C S M ord (.slice A' (n+k) c') out iw ow un began part (.slice none 0 0))::Zad 5 1 (.slice A' (n+k) c') (n+k) (bs (xs++ys))::F):=by
 have kK:=h.at_ (i:=0) rfl
 have HR:=Hd (hB _ h.tail.tail)
 have H:=Hd h
 have HN:=Hd hn
 have HK:=Hd hk
 have HS:=Hd hS
 unfold Zaf at kK
 clear h hB hS hn hk
 go_enter func111,ntmps111
 go_wp2_with (at_builtin;refine Zcl (i:=1) rfl _ _ rfl _ n (bs xs) H.out rfl rfl _ _ _ _ HR.out rfl (by omega) ?_;intro A2 c2 w2 h2 _;have hK2:=h2.at_ (i:=0) rfl;have H2:=Hd h2;unfold Zaf at hK2;clear h2 kK)
 refine wp_loop_rounds 1 ?_
 rw[rounds_succ]
 go_wp2_with fail
 obtain⟨w3,hw3⟩:=exl ((w2.setCell ⟨kb,4,none⟩ (.slice A2 (n+k) c2)).setCell ⟨kb,13,none⟩ (.slice none 0 0))
 have h3:=(H2.out.set_ (i:=0) rfl 4 (.slice A2 (n+k) c2)).set_ (i:=0) rfl 13 (.slice none 0 0)
 rw[hw3]at h3⊢
 change Sep w3 (Zaa kb _ (Zaf C S M ord (.slice A2 (n+k) c2) out iw ow un began part (.slice none 0 0))::Zad _ 1 _ (n+k) (bs xs++bs ys)::F)at h3
 rw[<-Za1]at h3
 have hl:(xs++ys).length=n+k:=by rw[List.length_append,<-HN.out,<-HK.out]
 refine(Zdt (xs++ys) A2 (n+k) c2 hl.symm (by rw[hl];exact h3.cap (i:=1) rfl) (by omega) w3 (by rw[hl];exact Zag h3 (i:=1) rfl)).mono ?_
 rintro e w4 ⟨v,rfl,A4,c4,rfl,-,hb4⟩
 rw[HS.out,Zbe (by decide)]
 have h4:=(h3.below hb4).newBlk 134 #[.int .i64 0,.int .i64 0,.int .i64 0,.slice A4 0 c4]
 have kK:=h4.at_ (i:=1) rfl
 have H4:=Hd h4.tail
 have qe:=Zil
 have qe2:=Zsx
 have qe3:=Z0m
 unfold Zaf at kK
 clear hK2 h3 h4 hb4 hw3 hl
 unfold frV Zhh
 go_wp2
 go_ret
 exact⟨rfl,A2,c2,H4.out⟩
theorem Zp0 {w:World}{F:List Zae}{kb C S M n c k bc u z:Nat}{A B:Option Addr}{ord out part evs:Value}{xs ys:List UInt8}{iw ow un:Int}{began:Bool}(f:Frm)(zs:List UInt8)
  (hn:n=xs.length) (hk:k=ys.length) (hs:n+k<=1000) (hB:∀w',Sep w' F->Zab w' w'.heap.size 1 B k (bs ys)) (hS:Zdy (xs++ys)=(f,u,0)) (hu:u<=n+k) (hu0:0 < n+k) (hz:(xs++ys).drop u=zs) (hzl:z=zs.length) (hS2:Zdy zs=(Zhh,0,8))
  (R:Value->Value->Int->Int->Int->Bool->Value->Value->List Zae->Prop)
  (hH:∀(w1:World) (A1 BA:Option Addr) (c1 b1:Nat),Sep w1 (Zaa kb 200 (Zaf C S M ord (.slice A1 z c1) out iw ow un began part (.slice none 0 0))::Zad 5 1 (.slice A1 z c1) z (bs zs)::Zad 5 1 (.slice BA f.body.length b1) f.body.length (bs f.body)::F)->
   CA 162 #[.pointer (some ⟨kb,0,none⟩),frV f BA b1] w1 fun e w'=>e=.returned (.tuple #[])/\∃ord out iw ow un began part evs G,R ord out iw ow un began part evs G/\
    Sep w' (Zaa kb 200 (Zaf C S M ord (.slice A1 z c1) out iw ow un began part evs)::Zad 5 1 (.slice A1 z c1) z (bs zs)::G))
  (h:Sep w (Zaa kb 200 (Zaf C S M ord (.slice A n c) out iw ow un began part evs)::Zad 5 1 (.slice A n c) n (bs xs)::F)):
  CA 111 #[.pointer (some ⟨kb,0,none⟩),.slice B k bc] w fun e w'=>
   ∃ord out iw ow un began part evs G A' c',e=.returned evs/\R ord out iw ow un began part evs G/\Sep w' (Zaa kb 200 (Zaf C S M ord (.slice A' z c') out iw ow un began part evs)::Zad 5 1 (.slice A' z c') z (bs zs)::G):=by
 subst hzl
 have kK:=h.at_ (i:=0) rfl
 have HR:=Hd (hB _ h.tail.tail)
 have H:=Hd h
 have HN:=Hd hn
 have HK:=Hd hk
 have HS:=Hd hS
 have HS2:=Hd hS2
 have HZ:=Hd hz
 have HH:=Hd hH
 unfold Zaf at kK
 clear h hB hS hn hk hS2 hz hH
 go_enter func111,ntmps111
 go_wp2_with (at_builtin;refine Zcl (i:=1) rfl _ _ rfl _ n (bs xs) H.out rfl rfl _ _ _ _ HR.out rfl (by omega) ?_;intro A2 c2 w2 h2 _;have hK2:=h2.at_ (i:=0) rfl;have H2:=Hd h2;unfold Zaf at hK2;clear h2 kK)
 refine wp_loop_rounds 2 ?_
 rw[rounds_succ]
 go_wp2_with fail
 obtain⟨w3,hw3⟩:=exl ((w2.setCell ⟨kb,4,none⟩ (.slice A2 (n+k) c2)).setCell ⟨kb,13,none⟩ (.slice none 0 0))
 have h3:=(H2.out.set_ (i:=0) rfl 4 (.slice A2 (n+k) c2)).set_ (i:=0) rfl 13 (.slice none 0 0)
 rw[hw3]at h3⊢
 change Sep w3 (Zaa kb _ (Zaf C S M ord (.slice A2 (n+k) c2) out iw ow un began part (.slice none 0 0))::Zad _ 1 _ (n+k) (bs xs++bs ys)::F)at h3
 rw[<-Za1]at h3
 have hl:(xs++ys).length=n+k:=by rw[List.length_append,<-HN.out,<-HK.out]
 obtain⟨g2,rfl,-⟩:=h3.rowAt (i:=1) rfl hu0
 have hc2:=h3.cap (i:=1) rfl
 have HL:=Hd hl
 refine(Zdt (xs++ys) (some ⟨g2,0,none⟩) (n+k) c2 hl.symm (by rw[hl];exact hc2) (by omega) w3 (by rw[hl];exact Zag h3 (i:=1) rfl)).mono ?_
 rintro e w4 ⟨v,rfl,A4,c4,rfl,hown4,hb4⟩
 rw[HS.out]at hown4⊢
 rw[Zal]
 have h4:=(h3.newRow hb4 hown4).newBlk 134 #[.int .i64 f.K,.int .i64 f.F,.int .i64 f.S,.slice A4 f.body.length c4]
 have kX:=h4.at_ (i:=0) rfl
 have kK:=h4.at_ (i:=2) rfl
 have hr4:=(Zag h4 (i:=3) rfl).cut (k:=u) (cap:=c2) hu hc2
 rw[Nat.mul_one,Zfy,HZ.out]at hr4
 have hzn:n+k-u=zs.length:=by rw[<-HZ.out,List.length_drop,HL.out]
 have HZN:=Hd hzn
 rw[hzn]at hr4
 have H4:=Hd h4
 unfold Zaf at kK
 clear hK2 h3 hb4 hw3 hl hown4 H H2 HR h4 hzn
 unfold frV
 have qe:=Zsw
 by_cases hcu:c2=u
 all_goals
  first
   | (rw[if_pos hcu]at hr4;have hr6:=hr4)
   | (rw[if_neg hcu]at hr4;have hr6:Zab (w4.alloc (.cells #[.int .i64 f.K,.int .i64 f.F,.int .i64 f.S,.slice A4 f.body.length c4] 134)) (w4.alloc (.cells #[.int .i64 f.K,.int .i64 f.F,.int .i64 f.S,.slice A4 f.body.length c4] 134)).heap.size 1 (some ⟨g2,u,none⟩) zs.length (bs zs):=by simpa [Addr.add_lit]using hr4)
  have HC:=Hd hr6
  clear hr4 hr6
  go_wp2_with fail
  refine(Zcd _ zs _ _ HZN.out (fun e=>by cases e) (by have:=HZN.out;omega) _ HC.out).mono ?_
  rintro e w6 ⟨A6,c6,rfl,hown6,hb6⟩
  have h6:=H4.out.newRow hb6 hown6
  clear kK kX HC H4
  have kX:=h6.at_ (i:=1) rfl
  have kK:=h6.at_ (i:=3) rfl
  have H6:=Hd h6
  unfold Zaf at kK
  clear h6 hown6 hb6
  go_wp2_with fail
  obtain⟨w7,hw7⟩:=exl (w6.setCell ⟨kb,4,none⟩ (.slice A6 zs.length c6))
  have h7:=H6.out.set_ (i:=3) rfl 4 (.slice A6 zs.length c6)
  rw[hw7]at h7⊢
  change Sep w7 (_::_::_::Zaa kb _ (Zaf C S M ord (.slice A6 zs.length c6) out iw ow un began part (.slice none 0 0))::_)at h7
  clear kK kX H6 hw7
  have h8:=(h7.front 3 rfl).drop_ 2
  have H8:=Hd (h8.drop_ 3)
  clear h7 h8
  refine(HH.out w7 A6 A4 c6 c4 H8.out).mono ?_
  rintro e w9 ⟨rfl,ord',out',iw',ow',un',began',part',evs',G,hR,h9⟩
  have kK:=h9.at_ (i:=0) rfl
  have H9:=Hd h9
  have HR9:=Hd hR
  unfold Zaf at kK
  clear h9 hR H8
  go_wp2_with fail
  rw[rounds_succ]
  go_wp2_with fail
  refine(Zdt zs A6 zs.length c6 rfl (H9.out.cap (i:=1) rfl) (by have:=HZN.out;omega) w9 (Zag H9.out (i:=1) rfl)).mono ?_
  rintro e w10 ⟨v,rfl,A8,c8,rfl,-,hb8⟩
  rw[HS2.out,Zbe (by decide)]
  have h10:=(H9.out.below hb8).newBlk 134 #[.int .i64 0,.int .i64 0,.int .i64 0,.slice A8 0 c8]
  clear kK hb8
  have kK:=h10.at_ (i:=1) rfl
  have H10:=Hd h10.tail
  have qe1:=Zil
  have qe2:=Zsx
  have qe3:=Z0m
  unfold Zaf at kK
  clear h10
  unfold frV Zhh
  go_wp2
  go_ret
  exact⟨_,_,_,_,_,_,_,_,_,_,_,rfl,HR9.out,H10.out⟩
theorem Zs8 {w:World}{kb:Nat}(h:w.cell? ⟨kb,11,none⟩=some (.bool false)):CA 110 #[.pointer (some ⟨kb,0,none⟩)] w fun e w'=>e=.returned (.bool false)/\w=w':=by
 have hl:=World.block_lt_of_cell? w _ h
 go_enter func110,ntmps110
 go_wp2
 go_ret
 exact⟨rfl,rfl⟩
theorem Zof {w:World}{g kb k bc:Nat}{B:Option Addr}{P:World->Prop}(hg:w.cell? ⟨g,0,none⟩=some (.pointer (some ⟨kb,0,none⟩)))(ho:w.cell? ⟨kb,11,none⟩=some (.bool false))
  (hF:CA 111 #[.pointer (some ⟨kb,0,none⟩),.slice B k bc] w fun e w'=>∃ea ec,e=.returned (.slice ea 0 ec)/\P w'):
  CA 59 #[.pointer (some ⟨g,0,none⟩),.slice B k bc] w fun e w'=>e=.returned .nilIface/\P w':=by
 have HF:=Hd hF
 have HO:=Hd (Zs8 ho)
 have hl:=World.block_lt_of_cell? w _ hg
 clear hF ho
 go_enter func59,ntmps59
 go_wp2_with fail
 refine Mo HO ?_
 rintro e w' ⟨rfl,rfl⟩
 go_wp2_with fail
 refine Mo HF ?_
 rintro e w1 ⟨ea,ec,rfl,hP⟩
 have HP:=Hd hP
 clear hP hg hl HF HO
 go_wp2_with fail
 refine wp_loop_rounds 1 ?_
 rw[rounds_succ]
 go_wp2
 go_ret
 exact⟨rfl,HP.out⟩
theorem gf_one {w:World}{g kb k bc:Nat}{B:Option Addr}(wh st cd:Int)(fn bn:Nat)(en:Bool){P:Nat->Option Addr->Nat->Option Addr->Nat->World->Prop}{R:World->Prop}(hg:w.cell? ⟨g,0,none⟩=some (.pointer (some ⟨kb,0,none⟩)))(ho:w.cell? ⟨kb,11,none⟩=some (.bool false))
  (hF:CA 111 #[.pointer (some ⟨kb,0,none⟩),.slice B k bc] w fun e w'=>∃ea ec fa fc ba bb,e=.returned (.slice (some ⟨ea,0,none⟩) 1 ec)/\(∀j,j < 6->w'.cell? ⟨ea,j,none⟩=(#[.int .i64 wh,.int .i64 st,.int .i64 cd,.slice fa fn fc,.slice ba bn bb,.bool en]:Array Value)[j]?)/\P ea fa fc ba bb w')
  (hE:∀ea fa fc ba bb w1,P ea fa fc ba bb w1->CA 112 #[.pointer (some ⟨g,0,none⟩),.agg #[.int .i64 wh,.int .i64 st,.int .i64 cd,.slice fa fn fc,.slice ba bn bb,.bool en]] (w1.alloc (.cells #[.int .i64 wh,.int .i64 st,.int .i64 cd,.slice fa fn fc,.slice ba bn bb,.bool en] 215)) fun e w'=>e=.returned (.tuple #[])/\R w'):
  CA 59 #[.pointer (some ⟨g,0,none⟩),.slice B k bc] w fun e w'=>e=.returned .nilIface/\R w':=by
 have HF:=Hd hF
 have HO:=Hd (Zs8 ho)
 have HE:=Hd hE
 have hl:=World.block_lt_of_cell? w _ hg
 clear hF ho hE
 go_enter func59,ntmps59
 go_wp2_with fail
 refine Mo HO ?_
 rintro e w' ⟨rfl,rfl⟩
 go_wp2_with fail
 refine Mo HF ?_
 rintro e w1 ⟨ea,ec,fa,fc,ba,bb,rfl,hc,hP⟩
 have HC:=Hd (HE.out _ _ _ _ _ _ hP)
 have x0:w1.cell? ⟨ea,0,none⟩=some (.int .i64 wh):=hc 0 (by decide)
 have x1:w1.cell? ⟨ea,1,none⟩=some (.int .i64 st):=hc 1 (by decide)
 have x2:w1.cell? ⟨ea,2,none⟩=some (.int .i64 cd):=hc 2 (by decide)
 have x3:w1.cell? ⟨ea,3,none⟩=some (.slice fa fn fc):=hc 3 (by decide)
 have x4:w1.cell? ⟨ea,4,none⟩=some (.slice ba bn bb):=hc 4 (by decide)
 have x5:w1.cell? ⟨ea,5,none⟩=some (.bool en):=hc 5 (by decide)
 have xl:=World.block_lt_of_cell? w1 _ x0
 clear hP hg hl HF HO HE hc
 go_wp2_with fail
 refine wp_loop_rounds 2 ?_
 rw[rounds_succ]
 go_wp2_with fail
 refine Mo HC ?_
 rintro e w2 ⟨rfl,hR⟩
 have HR:=Hd hR
 clear hR HC x0 x1 x2 x3 x4 x5 xl
 go_wp2_with fail
 rw[rounds_succ]
 go_wp2
 go_ret
 exact⟨rfl,HR.out⟩
structure Ev where
 wh:Int
 st:Int
 fa:Option Addr
 fn:Nat
 fc:Nat
 ba:Option Addr
 bn:Nat
 bc:Nat
 en:Bool
def Ev.v (e:Ev):Array Value:=evV e.wh e.st 0 (.slice e.fa e.fn e.fc) (.slice e.ba e.bn e.bc) e.en
def Zre (l:List Ev):List Value:=l.flatMap fun e=>e.v.toList
theorem Zqm (l:List Ev)(e:Ev):Zre (l++[e])=Zre l++e.v.toList:=by
 unfold Zre
 rw[List.flatMap_append]
 simp
theorem Z0k :∀(l:List Ev) (t:Nat) (ht:t < l.length) (j:Nat),j < 6->(Zre l)[t*6+j]? =l[t].v[j]?
 | [],t,ht,_,_=>by simp at ht
 | a::l,0,_,j,hj=>by
  unfold Zre
  rw[List.flatMap_cons,List.getElem?_append_left (by simp only[Ev.v,evV,List.length_cons,List.length_nil];omega)]
  simp
 | a::l,t+1,ht,j,hj=>by
  have h:=Z0k l t (by simpa using ht) j hj
  unfold Zre at h⊢
  rw[List.flatMap_cons,List.getElem?_append_right (by simp only[Ev.v,evV,List.length_cons,List.length_nil];omega)]
  have e1:(t+1)*6+j-a.v.toList.length=t*6+j:=by simp only[Ev.v,evV,List.length_cons,List.length_nil];omega
  rw[e1,h]
  simp
theorem evs_row {w:World}{L:List Zae}{i ec:Nat}{E:Option Addr}{l:List Ev}(h:Sep w L)(hi:L[i]? =some (Zad 215 6 (.slice E l.length ec) l.length (Zre l))){t:Nat}(ht:t < l.length):
  ∃ea,E=some ⟨ea,0,none⟩/\l.length<=ec/\∀j,j < 6->w.cell? ⟨ea,t*6+j,none⟩=l[t].v[j]? :=by
 have hr:=h.row hi
 rcases hr.2 with⟨h2,_⟩ | ⟨g,cap,cur,hv,_,_,hc,_⟩
 ·simp only[Value.slice.injEq]at h2;omega
 ·simp only[Value.slice.injEq]at hv
  obtain⟨rfl,-,rfl⟩:=hv
  refine⟨g,rfl,hc,fun j hj=> ?_⟩
  have h6:j < l[t].v.size:=hj
  have h1:=hr.cells (g:=g) rfl (t*6+j) l[t].v[j] (by rw[Z0k l t ht j hj];simp[h6])
  rw[Addr.add_lit,Nat.zero_add]at h1
  rw[h1]
  simp[h6]
theorem vg_feed {w:World}{g kb k bc:Nat}{B:Option Addr}{P:List Ev->Option Addr->Nat->Nat->World->Prop}(hg:w.cell? ⟨g,0,none⟩=some (.pointer (some ⟨kb,0,none⟩)))(ho:w.cell? ⟨kb,11,none⟩=some (.bool false))
  (hF:CA 111 #[.pointer (some ⟨kb,0,none⟩),.slice B k bc] w fun e w'=>∃(l:List Ev) (E:Option Addr) (ec:Nat),e=.returned (.slice E l.length ec)/\l.length<=1000/\P l E ec 0 w')
  (hP:∀l E ec t w1,P l E ec t w1->∀ht:t < l.length,∃ea,E=some ⟨ea,0,none⟩/\l.length<=ec/\∀j,j < 6->w1.cell? ⟨ea,t*6+j,none⟩=l[t].v[j]?)
  (hE:∀l E ec t w1,P l E ec t w1->∀ht:t < l.length,CA 112 #[.pointer (some ⟨g,0,none⟩),.agg l[t].v] (w1.alloc (.cells l[t].v 215)) fun e w'=>e=.returned (.tuple #[])/\P l E ec (t+1) w'):
  CA 59 #[.pointer (some ⟨g,0,none⟩),.slice B k bc] w fun e w'=>e=.returned .nilIface/\∃(l:List Ev) (E:Option Addr) (ec:Nat),P l E ec l.length w':=by
 have HF:=Hd hF
 have HO:=Hd (Zs8 ho)
 have HE:=Hd hE
 have HP:=Hd hP
 have hl:=World.block_lt_of_cell? w _ hg
 clear hF ho hE hP
 go_enter func59,ntmps59
 go_wp2_with fail
 refine Mo HO ?_
 rintro e w' ⟨rfl,rfl⟩
 go_wp2_with fail
 refine Mo HF ?_
 rintro e w1 ⟨l,E,ec,rfl,hlen,hP1⟩
 have HP1:=Hd hP1
 obtain⟨m,hm⟩:=exl (l.length)
 rw[hm]at hlen⊢
 have HM:=Hd hm
 clear hP1 hg hl HF HO hm
 go_wp2_with fail
 go_loopg [20] m (fun mm v20 wr=>∃t:Nat,mm+t=m/\v20=.int .i64 ((t:Nat):Int)/\Hid (P l E ec t wr))
 case atStart=>exact⟨0,rfl,rfl,HP1⟩
 case round=>
  obtain⟨t,ht,rfl,HPT⟩:=hrel
  have HT:=Hd ht
  clear ht
  by_cases hlt:t < m
  ·have hlt2:t < l.length:=by rw[HM.out];exact hlt
   obtain⟨ea,rfl,hc,hx⟩:=HP.out l E ec t wr HPT.out hlt2
   obtain⟨e0,he0⟩:=exl (l[t])
   have HEV:=Hd (HE.out l _ ec t wr HPT.out hlt2)
   rw[he0]at hx HEV
   obtain⟨wh,st,fa,fn,fc,ba,bn,bc2,en⟩:=e0
   have x0:wr.cell? ⟨ea,t*6,none⟩=some (.int .i64 wh):=hx 0 (by decide)
   have x1:wr.cell? ⟨ea,t*6+1,none⟩=some (.int .i64 st):=hx 1 (by decide)
   have x2:wr.cell? ⟨ea,t*6+2,none⟩=some (.int .i64 0):=hx 2 (by decide)
   have x3:wr.cell? ⟨ea,t*6+3,none⟩=some (.slice fa fn fc):=hx 3 (by decide)
   have x4:wr.cell? ⟨ea,t*6+4,none⟩=some (.slice ba bn bc2):=hx 4 (by decide)
   have x5:wr.cell? ⟨ea,t*6+5,none⟩=some (.bool en):=hx 5 (by decide)
   have xl:=World.block_lt_of_cell? wr _ x0
   have hti:((t:Nat):Int) < ((m:Nat):Int):=by omega
   unfold Ev.v evV at HEV
   clear hx hlt2 he0 HPT
   go_wp2_with fail
   refine Mo HEV ?_
   rintro e w2 ⟨rfl,hR⟩
   have HR:=Hd hR
   clear hR HEV x0 x1 x2 x3 x4 x5 xl
   go_wp2_with fail
   go_roundg (gk-1)
   case measure=>have:=HT.out;omega
   case rel=>exact⟨t+1,by have:=HT.out;omega,by go_num,HR⟩
  ·have htm:t=m:=by have:=HT.out;omega
   subst htm
   have hti:¬((t:Nat):Int) < ((t:Nat):Int):=by omega
   have HR:=Hd (show P l E ec l.length wr by rw[HM.out];exact HPT.out)
   clear HPT
   go_wp2
   go_ret
   exact⟨rfl,l,E,ec,HR.out⟩
inductive Stg where
 | A (X:Nat) (FA:Option Addr) (fc:Nat)
 | AE (X:Nat) (FA:Option Addr) (fc:Nat)
 | AC (X:Nat) (FA:Option Addr) (fc:Nat) (BA:Option Addr) (bc:Nat)
 | W (X Y:Nat) (FA:Option Addr) (fc:Nat)
 | C (X Y:Nat) (FA:Option Addr) (fc:Nat) (BA:Option Addr) (bc:Nat)
def chn0 (X:Nat):Zae:=Zaa X 313 (Zbn 2000 2000 0 (.slice none 0 0) false false)
def chnN (X n:Nat):Zae:=Zaa X 313 (Zbn ((2000-n:Nat):Int) 2000 ((n:Nat):Int) (.slice none 0 0) false false)
def fldA (FA:Option Addr)(fc:Nat)(l:List Fld):Zae:=Zad 41 2 (.slice FA l.length fc) l.length (fvs l)
def bytR (BA:Option Addr)(bc:Nat)(b:List UInt8):Zae:=Zad 5 1 (.slice BA b.length bc) b.length (bs b)
def calE (Y:Nat)(FA:Option Addr)(fc:Nat)(l:List Fld):Zae:=Zaa Y 146 (Zdl (.slice FA l.length fc) (.slice none 0 0))
def Stg.at_ (r:Rq):Stg->List Zae
 | .A X FA fc=> [chn0 X,fldA FA fc r.l]
 | .AE X FA fc=> [chn0 X,fldA FA fc r.l]
 | .AC X FA fc BA bc=> [chnN X r.b.length,fldA FA fc r.l,bytR BA bc r.b]
 | .W X Y FA fc=> [chn0 X,calE Y FA fc r.l,fldA FA fc r.l]
 | .C X Y FA fc BA bc=> [chnN X r.b.length,calE Y FA fc r.l,fldA FA fc r.l,bytR BA bc r.b]
def evA (k:Nat)(FA:Option Addr)(n fc:Nat)(en:Bool):Ev:=⟨1,sid k,FA,n,fc,none,0,0,en⟩
def evC (k:Nat)(BA:Option Addr)(n bc:Nat):Ev:=⟨2,sid k,none,0,0,BA,n,bc,true⟩
def Stg.ev (k:Nat)(r:Rq):Stg->List Ev
 | .A _ FA fc=> [evA k FA r.l.length fc false]
 | .AE _ FA fc=> [evA k FA r.l.length fc true]
 | .AC _ FA fc BA bc=> [evA k FA r.l.length fc false,evC k BA r.b.length bc]
 | .W _ _ _ _=> []
 | .C _ _ _ _ BA bc=> [evC k BA r.b.length bc]
def Stg.X :Stg->Nat
 | .A X _ _=>X
 | .AE X _ _=>X
 | .AC X _ _ _ _=>X
 | .W X _ _ _=>X
 | .C X _ _ _ _ _=>X
def Stg.st :Stg->Int
 | .A ..=>1
 | .AE ..=>2
 | .AC ..=>2
 | .W ..=>1
 | .C ..=>2
def Stg.call :Stg->Option Value
 | .W _ Y _ _=>some (ptr Y)
 | .C _ Y _ _ _ _=>some (ptr Y)
 | _=>none
def Stg.un (r:Rq):Stg->Nat
 | .AC ..=>r.b.length
 | .C ..=>r.b.length
 | _=>0
def Stg.whole :Stg->Bool
 | .A ..=>false
 | .W ..=>false
 | _=>true
def Stg.body :Stg->Bool
 | .AE ..=>false
 | _=>true
def Stg.new :Stg->Bool
 | .W ..=>false
 | .C ..=>false
 | _=>true
section
variable (rs:Nat->Rq)
def pdL :Nat->List Stg->List Zae
 | _,[]=> []
 | k,s::ps=>s.at_ (rs k)++pdL (k+1) ps
def pdE :Nat->List Stg->List Ev
 | _,[]=> []
 | k,s::ps=>s.ev k (rs k)++pdE (k+1) ps
def pdU :Nat->List Stg->Nat
 | _,[]=>0
 | k,s::ps=>s.un (rs k)+pdU (k+1) ps
theorem Zj3 (s:Stg):∀(ps:List Stg) (k:Nat),pdL rs k (ps++[s])=pdL rs k ps++s.at_ (rs (k+ps.length))
 | [],k=>by simp[pdL]
 | t::ps,k=>by
  show t.at_ (rs k)++pdL rs (k+1) (ps++[s])=(t.at_ (rs k)++pdL rs (k+1) ps)++_
  rw[Zj3 s ps (k+1),List.append_assoc,List.length_cons,show k+1+ps.length=k+(ps.length+1)by omega]
theorem Zj4 (s:Stg):∀(ps:List Stg) (k:Nat),pdE rs k (ps++[s])=pdE rs k ps++s.ev (k+ps.length) (rs (k+ps.length))
 | [],k=>by simp[pdE]
 | t::ps,k=>by
  show t.ev k (rs k)++pdE rs (k+1) (ps++[s])=(t.ev k (rs k)++pdE rs (k+1) ps)++_
  rw[Zj4 s ps (k+1),List.append_assoc,List.length_cons,show k+1+ps.length=k+(ps.length+1)by omega]
theorem Zid (s:Stg):∀(ps:List Stg) (k:Nat),pdU rs k (ps++[s])=pdU rs k ps+s.un (rs (k+ps.length))
 | [],k=>by simp[pdU]
 | t::ps,k=>by
  show t.un (rs k)+pdU rs (k+1) (ps++[s])=(t.un (rs k)+pdU rs (k+1) ps)+_
  rw[Zid s ps (k+1),List.length_cons,show k+1+ps.length=k+(ps.length+1)by omega]
  omega
def Zzs :Nat->Int
 | 0=>0
 | k+1=>sid k
theorem Zp8 (k:Nat):Zzs k < sid k:=by
 cases k with
 | zero=>show(0:Int) < sid 0;decide
 | succ k=>show sid k < sid (k+1);unfold sid;omega
theorem Zzr {j k:Nat}(h:j < k):sid j<=Zzs k:=by cases k with
 | zero=>omega
 | succ k=>show sid j<=sid k;unfold sid;omega
def Zha :Nat->Nat
 | 0=>0
 | k+1=>Zha k+(rs k).b.length
def StOk (cl sl gl:List (Int×Value))(k:Nat)(r:Rq)(s:Stg):Prop:=Za8 cl (sid k)=some (ptr s.X)/\Za8 sl (sid k)=some (.int .i64 s.st)/\Za8 gl (sid k)=s.call/\(s.body=true↔r.b≠[])
structure Zh2 (k:Nat)(ps:List Stg)(c:GC)(v:GV):Prop where
 kc:Zb7 c.cl (k+ps.length)
 ks:Zb7 v.sl (k+ps.length)
 kg:Zb7 v.gl (k+if(ps.all Stg.new)then 0 else 1)
 int:∀p∈v.sl,∃st,p.2=.int .i64 st
 last:c.last=Zzs (k+ps.length)
 st:∀t s,ps[t]? =some s->StOk c.cl v.sl v.gl (k+t) (rs (k+t)) s
 iw:∃hb,c.iw=((2000-hb:Nat):Int)/\hb=Zha rs k+pdU rs k ps
 un:c.un=(pdU rs k ps:Int)
 ord:∀t s,ps[t+1]? =some s->s.new=true/\∀s',ps[t]? =some s'->s'.whole=true
end
theorem Zk1 (A B S R:List Zae):(A++(B++(S++R))).Perm (S++(A++(B++R))):=by
 have h1:(A++(B++(S++R))).Perm ((A++B)++S++R):=by
  rw[List.append_assoc,List.append_assoc]
 have h2:((A++B)++S++R).Perm (S++(A++B)++R):=(List.perm_append_comm).append_right R
 have h3:(S++(A++B)++R)=S++(A++(B++R)):=by simp
 exact(h1.trans h2).trans (by rw[h3])
section
variable {rs:Nat->Rq} {k:Nat} {s:Stg} {ps:List Stg} {c c':GC} {v v':GV}
theorem Zh2.tailNew (hp:Zh2 rs k (s::ps) c v):ps.all Stg.new=true:=
 List.all_eq_true.2 fun x hx=>by
  obtain⟨t,ht⟩:=List.mem_iff_getElem?.1 hx
  exact(hp.ord t x (by simpa using ht)).1
theorem Zh2.alone (hp:Zh2 rs k (s::ps) c v)(hs:s.whole=false):ps=[]:=by
 cases ps with
 | nil=>rfl
 | cons t ps=>
  have h:=(hp.ord 0 t rfl).2 s rfl
  rw[hs]at h
  cases h
theorem Zh2.keys0 (hp:Zh2 rs k (s::ps) c v)(hs:s.new=true):Zb7 v.gl k:=by
 have h:=hp.kg
 have h2:(s::ps).all Stg.new=true:=by rw[List.all_cons,hs,hp.tailNew];rfl
 rw[if_pos h2]at h
 exact h
theorem Zh2.keys1 (hp:Zh2 rs k (s::ps) c v)(hs:s.new=false):Zb7 v.gl (k+1):=by
 have h:=hp.kg
 have h2:¬(s::ps).all Stg.new=true:=by rw[List.all_cons,hs];simp
 rw[if_neg h2]at h
 exact h
theorem Zlr (rs:Nat->Rq):∀{i j:Nat},i<=j->Zha rs i<=Zha rs j:=fun {i j} h=>by
 induction j with
 | zero=>have:i=0:=by omega
         subst this;exact Nat.le_refl _
 | succ j ih=>
  rcases Nat.lt_or_ge i (j+1)with h1 | h1
  ·exact Nat.le_trans (ih (by omega)) (Nat.le_add_right _ _)
  ·have:i=j+1:=by omega
   subst this;exact Nat.le_refl _
theorem Stg.un_le (r:Rq)(s:Stg):s.un r<=r.b.length:=by cases s <;> simp[Stg.un]
theorem Zy8 (rs:Nat->Rq):∀(ps:List Stg) (k:Nat),Zha rs k+pdU rs k ps<=Zha rs (k+ps.length)
 | [],k=>by simp[pdU]
 | s::ps,k=>by
  have h1:=Zy8 rs ps (k+1)
  have h2:=Stg.un_le (rs k) s
  have h3:Zha rs (k+1)=Zha rs k+(rs k).b.length:=rfl
  have h4:pdU rs k (s::ps)=s.un (rs k)+pdU rs (k+1) ps:=rfl
  rw[h4,List.length_cons,show k+(ps.length+1)=k+1+ps.length by omega]
  omega
theorem Zh2.next (hp:Zh2 rs k (s::ps) c v)(hcl:c'.cl=c.cl)(hla:c'.last=c.last)(hiw:c'.iw=c.iw)(hun:c'.un=(pdU rs (k+1) ps:Int))(hsl:v'.sl=v.sl∨v'.sl=Ze3 v.sl (sid k) (.int .i64 4))(hgk:Zb7 v'.gl (k+1))(hgo:∀x,x≠sid k->Za8 v'.gl x=Za8 v.gl x)(hb:s.un (rs k)=(rs k).b.length):Zh2 rs (k+1) ps c' v':=by
 have e1:k+(s::ps).length=k+1+ps.length:=by rw[List.length_cons];omega
 have q1:=hp.kc
 have q2:=hp.ks
 have q3:=hp.last
 rw[e1]at q1 q2 q3
 refine⟨by rw[hcl];exact q1,?_,?_,?_,by rw[hla];exact q3,?_,?_,hun,?_⟩
 ·rcases hsl with h | h <;> rw[h]
  ·exact q2
  ·exact q2.set _ _
 ·rw[if_pos hp.tailNew]
  exact hgk
 ·intro p hpm
  rcases hsl with h | h <;> rw[h]at hpm
  ·exact hp.int p hpm
  ·unfold Ze3 at hpm
   obtain⟨q,hq,rfl⟩:=List.mem_map.1 hpm
   split
   ·exact⟨4,rfl⟩
   ·exact hp.int q hq
 ·intro t s' ht
  obtain⟨a1,a2,a3,a4⟩:=hp.st (t+1) s' (by simpa using ht)
  rw[show k+(t+1)=k+1+t by omega]at a1 a2 a3 a4
  have hne:sid (k+1+t)≠sid k:=fun e=>by have:=Zht e;omega
  refine⟨by rw[hcl];exact a1,?_,by rw[hgo _ hne];exact a3,a4⟩
  rcases hsl with h | h <;> rw[h]
  ·exact a2
  ·rw[Zc8,if_neg hne]
   exact a2
 ·obtain⟨hb1,e2,e3⟩:=hp.iw
  refine⟨hb1,hiw.trans e2,?_⟩
  rw[e3]
  show Zha rs k+(s.un (rs k)+pdU rs (k+1) ps)=Zha rs k+(rs k).b.length+pdU rs (k+1) ps
  omega
 ·intro t s' ht
  obtain⟨b1,b2⟩:=hp.ord (t+1) s' (by simpa using ht)
  exact⟨b1,fun s2 h2=>b2 s2 (by simpa using h2)⟩
theorem Zh2.asked {s':Stg}{Y:Nat}(hp:Zh2 rs k (s::ps) c v)(hn:s.new=true)(hn':s'.new=false)(hX:s'.X=s.X)(hst:s'.st=s.st)(hca:s'.call=some (ptr Y))(hbo:s'.body=s.body)(hw:s'.whole=s.whole)(hun:s'.un (rs k)=s.un (rs k))(hsl:v'.sl=v.sl)(hgl:v'.gl=v.gl++[(sid k,ptr Y)]):Zh2 rs k (s'::ps) c v':=by
 have k0:=hp.keys0 hn
 refine⟨hp.kc,by rw[hsl];exact hp.ks,?_,by rw[hsl];exact hp.int,hp.last,?_,?_,?_,?_⟩
 ·have h2:¬(s'::ps).all Stg.new=true:=by rw[List.all_cons,hn'];simp
  rw[if_neg h2,hgl]
  exact k0.snoc _
 ·intro t s2 ht
  rw[hsl,hgl]
  cases t with
  | zero=>
   cases ht
   obtain⟨a1,a2,a3,a4⟩:=hp.st 0 s rfl
   exact⟨by rw[hX];exact a1,by rw[hst];exact a2,by rw[hca];exact Zc7 (k0.none_ (Nat.le_refl _)) _,by rw[hbo];exact a4⟩
  | succ t=>
   obtain⟨a1,a2,a3,a4⟩:=hp.st (t+1) s2 ht
   have hne:sid (k+(t+1))≠sid k:=fun e=>by have:=Zht e;omega
   exact⟨a1,a2,by rw[Zcu _ hne];exact a3,a4⟩
 ·obtain⟨hb1,e2,e3⟩:=hp.iw
  exact⟨hb1,e2,e3.trans (by show Zha rs k+(s.un (rs k)+pdU rs (k+1) ps)=Zha rs k+(s'.un (rs k)+pdU rs (k+1) ps);rw[hun])⟩
 ·refine hp.un.trans ?_
  show((s.un (rs k)+pdU rs (k+1) ps:Nat):Int)=((s'.un (rs k)+pdU rs (k+1) ps:Nat):Int)
  rw[hun]
 ·intro t s2 ht
  cases t with
  | zero=>
   obtain⟨b1,b2⟩:=hp.ord 0 s2 ht
   exact⟨b1,fun s3 h3=>by cases h3;rw[hw];exact b2 s rfl⟩
  | succ t=>exact hp.ord (t+1) s2 ht
end
theorem Zqq {i:Nat}{d:DS}(h:DOk i d)(hi:i<=8):d.xs.length<=10000/\d.na<=100/\d.jb.length<=100:=by
 have h1:=h.na
 have h2:=h.xs
 omega
theorem Zz8 {r:Rq}(hr:RqOk r)(hb:r.b=[]){w w0:World}{F:List Zae}{io k X Y fc:Nat}{FA:Option Addr}{a:GF}{c:GC}{v:GV}{d:DS}{ci cu:Int}(hP:Pow w0)(hio:F[io]? =some (Zel w0))(hk:k < 1000)(hi:k<=8)(hm:Dm k v d)(hd:DOk k d)
  (hl:sid k<=c.last) (hcv:Za8 c.cl (sid k)=some (ptr X)) (hsv:Za8 v.sl (sid k)=some (.int .i64 2)) (hgv:Za8 v.gl (sid k)=some (ptr Y)) (hsd:(v.sl.map (·.1)).Nodup) (hgd:(v.gl.map (·.1)).Nodup)
  (h:Sep w (Zaa X 313 (Zbn ci 2000 cu (.slice none 0 0) false false)::Zaa Y 146 (Zdl (.slice FA r.l.length fc) (.slice none 0 0))::Zad 41 2 (.slice FA r.l.length fc) r.l.length (fvs r.l)::gL a c v F)):
  CA 167 #[.pointer (some ⟨a.g,0,none⟩),.int .i64 (sid k)] w fun e w'=>e=.returned (.tuple #[])/\GwPost a c v F k k (d.whole k r) w':=by
 have h2:=Sep.ordN (h.nilRow 5 1) 4 [1,2,3,0] rfl (by decide)
 simp only[Zbo,Zbd,Zam,erS,erZ]at h2
 obtain⟨q1,q2,q3⟩:=Zqq hd hi
 exact Zuw hr hP hio hk hi hm hd.tx q1 q2 q3 (D:=none) (dc:=0) (fun _=>rfl) hl hcv hsv hgv hsd hgd (by rw[hb];exact h2)
structure GcSame (c c':GC):Prop where
 inn:c'.inn=c.inn
 part:c'.part=c.part
 evs:c'.evs=c.evs
 bg:c'.bg=c.bg
def opn (ps:List Stg):Bool:=ps.any fun s=> !s.whole
def Z11 (rs:Nat->Rq)(d0:DS)(a:GF)(c:GC)(R:List Zae)(nb:Nat)(ob:Bool)(es:List Ev)(w':World):Prop:=
 ∃k' ps' c' v',Zh2 rs k' ps' c' v'/\Dm k' v' (dsR d0 rs k')/\pdE rs k' ps'=es/\k'+ps'.length=nb/\opn ps'=ob/\GcSame c c'/\Sep w' (gL a c' v' (pdL rs k' ps'++R))
theorem ev_step {rs:Nat->Rq}{N k io:Nat}{ps:List Stg}{c:GC}{v:GV}{a:GF}{d0:DS}{e:Ev}{es:List Ev}{w w0:World}{R:List Zae}(hP:Pow w0)(hio:R[io]? =some (Zel w0))(hrs:∀j,j < N->RqOk (rs j))(hN:N<=8)(hkN:k+ps.length<=N)(hbs:Zha rs N<=900)(hd0:DOk 0 d0)(hp:Zh2 rs k ps c v)(hm:Dm k v (dsR d0 rs k))(he:pdE rs k ps=e::es)
  (h:Sep w (gL a c v (pdL rs k ps++R))):
  CA 112 #[.pointer (some ⟨a.g,0,none⟩),.agg e.v] w fun ex w'=>ex=.returned (.tuple #[])/\Z11 rs d0 a c R (k+ps.length) (opn ps) es w':=by
 cases ps with
 | nil=>cases he
 | cons s ps=>
  have hk8:k < 8:=by rw[List.length_cons]at hkN;omega
  have hrk:=hrs k (by rw[List.length_cons]at hkN;omega)
  obtain⟨a1,a2,a3,a4⟩:=hp.st 0 s rfl
  rw[Nat.add_zero]at a1 a2 a3 a4
  have hdk:=Z0q rs hd0 k
  have hkl:sid k<=c.last:=by rw[hp.last];exact Zzr (by rw[List.length_cons];omega)
  have hln:k+1+ps.length=k+(s::ps).length:=by rw[List.length_cons];omega
  cases s with
  | A X FA fc=>
   have hps:=hp.alone rfl
   subst hps
   have he2:evA k FA (rs k).l.length fc false::[]=e::es:=he
   cases he2
   have h1:=Sep.ordN h 21 [0,10,1,2,3,4,5,6,7,8,9,11,12,13,14,15,16,17,18,19,20] rfl (by decide)
   simp only[gL,Zbd,pdL,Stg.at_,List.map_cons,List.map_nil,List.cons_append,List.nil_append,List.append_nil,List.drop_succ_cons,List.drop_zero]at h1
   refine(Zty a3 h1).mono ?_
   rintro ex w' ⟨rfl,Y,h2⟩
   have h3:=Sep.ordN h2 22 [1,3,4,5,6,7,8,9,10,11,2,12,13,14,15,16,17,18,19,20,0,21] rfl (by decide)
   simp only[Zbo,Zbd,Zam,erS,erZ]at h3
   obtain⟨gl2,hg2⟩:∃q,v.gl++[(sid k,ptr Y)]=q:=⟨_,rfl⟩
   rw[hg2]at h3
   refine⟨rfl,k,[.W X Y FA fc],c,⟨v.TA,v.OA,v.A,v.LA,v.tc,v.oc,v.n,v.c,v.nl,v.lc,v.ow,v.tx,v.xs,v.lx,v.sl,gl2,v.jo,v.se,v.ll,v.bl,v.jl,v.Js⟩,hp.asked (s':=.W X Y FA fc) (Y:=Y) rfl rfl rfl rfl rfl rfl rfl rfl rfl hg2.symm,⟨hm.tx,hm.xs,hm.n,hm.ow,hm.nl,hm.lim,hm.ll,hm.jl,hm.jo⟩,rfl,rfl,rfl,⟨rfl,rfl,rfl,rfl⟩,h3⟩
  | W X Y FA fc=>
   have hps:=hp.alone rfl
   subst hps
   cases he
  | AC X FA fc BA bc=>
   have he2:evA k FA (rs k).l.length fc false::(evC k BA (rs k).b.length bc::pdE rs (k+1) ps)=e::es:=he
   cases he2
   have h1:=Sep.ordN h 22 [0,10,1,2,3,4,5,6,7,8,9,11,12,13,14,15,16,17,18,19,20,21] rfl (by decide)
   simp only[gL,Zbd,pdL,Stg.at_,List.map_cons,List.map_nil,List.cons_append,List.nil_append,List.append_nil,List.drop_succ_cons,List.drop_zero]at h1
   refine(Zty a3 h1).mono ?_
   rintro ex w' ⟨rfl,Y,h2⟩
   have h3:=Sep.ordN h2 23 [1,3,4,5,6,7,8,9,10,11,2,12,13,14,15,16,17,18,19,20,0,21,22] rfl (by decide)
   simp only[Zbo,Zbd,Zam,erS,erZ]at h3
   obtain⟨gl2,hg2⟩:∃q,v.gl++[(sid k,ptr Y)]=q:=⟨_,rfl⟩
   rw[hg2]at h3
   refine⟨rfl,k,.C X Y FA fc BA bc::ps,c,⟨v.TA,v.OA,v.A,v.LA,v.tc,v.oc,v.n,v.c,v.nl,v.lc,v.ow,v.tx,v.xs,v.lx,v.sl,gl2,v.jo,v.se,v.ll,v.bl,v.jl,v.Js⟩,hp.asked (s':=.C X Y FA fc BA bc) (Y:=Y) rfl rfl rfl rfl rfl rfl rfl rfl rfl hg2.symm,⟨hm.tx,hm.xs,hm.n,hm.ow,hm.nl,hm.lim,hm.ll,hm.jl,hm.jo⟩,rfl,rfl,rfl,⟨rfl,rfl,rfl,rfl⟩,h3⟩
  | AE X FA fc=>
   have he2:evA k FA (rs k).l.length fc true::pdE rs (k+1) ps=e::es:=he
   cases he2
   have hb0:(rs k).b=[]:=Decidable.byContradiction fun hh=>by cases a4.2 hh
   have h1:=Sep.ordN h 21 [0,10,1,2,3,4,5,6,7,8,9,11,12,13,14,15,16,17,18,19,20] rfl (by decide)
   simp only[gL,Zbd,pdL,Stg.at_,List.map_cons,List.map_nil,List.cons_append,List.nil_append,List.append_nil,List.drop_succ_cons,List.drop_zero]at h1
   have hk0:=hp.keys0 rfl
   refine(Zxy (Q:=Z11 rs d0 a c R (k+(Stg.AE X FA fc::ps).length) (opn (Stg.AE X FA fc::ps)) (pdE rs (k+1) ps)) a3 h1 (fun w2 Y h2=> ?_)).mono (fun ex w' hh=>hh)
   have h3:=Sep.ordN h2 22 [20,0,21,1,3,4,5,6,7,8,9,10,11,2,12,13,14,15,16,17,18,19] rfl (by decide)
   simp only[Zbo,Zbd,Zam,erS,erZ]at h3
   have hgy:=Zc7 (hk0.none_ (Nat.le_refl k)) (ptr Y)
   have hgk:=hk0.snoc (ptr Y)
   have hgo:∀x,x≠sid k->Za8 (v.gl++[(sid k,ptr Y)]) x=Za8 v.gl x:=fun x hx=>Zcu _ hx
   obtain⟨gl2,hg2⟩:∃q,v.gl++[(sid k,ptr Y)]=q:=⟨_,rfl⟩
   rw[hg2]at h3 hgy hgk hgo
   refine(Zz8 (r:=rs k) (F:=pdL rs (k+1) ps++R) (a:=a) (c:=c) (v:=⟨v.TA,v.OA,v.A,v.LA,v.tc,v.oc,v.n,v.c,v.nl,v.lc,v.ow,v.tx,v.xs,v.lx,v.sl,gl2,v.jo,v.se,v.ll,v.bl,v.jl,v.Js⟩) hrk hb0 hP (io:=(pdL rs (k+1) ps).length+io) (by rw[List.getElem?_append_right (by omega),Nat.add_sub_cancel_left];exact hio) (by omega) (by omega) ⟨hm.tx,hm.xs,hm.n,hm.ow,hm.nl,hm.lim,hm.ll,hm.jl,hm.jo⟩ hdk hkl a1 a2 hgy hp.ks.nd hgk.nd h3).mono ?_
   rintro ex w' ⟨rfl,v',g1,g2,g3,g4⟩
   refine⟨rfl,k+1,ps,c,v',hp.next rfl rfl rfl ?_ g2 ?_ ?_ ?_,g1,rfl,hln,rfl,⟨rfl,rfl,rfl,rfl⟩,g4⟩
   ·refine hp.un.trans ?_
    show((0+pdU rs (k+1) ps:Nat):Int)=_
    rw[Nat.zero_add]
   ·rcases g3 with g | g <;> rw[g]
    ·exact hgk
    ·exact hgk.del _
   ·intro x hx
    rcases g3 with g | g <;> rw[g]
    ·exact hgo x hx
    ·rw[Zna hx]
     exact hgo x hx
   ·show 0=_
    rw[hb0]
    rfl
  | C X Y FA fc BA bc=>
   have he2:evC k BA (rs k).b.length bc::pdE rs (k+1) ps=e::es:=he
   cases he2
   have hb0:0 < (rs k).b.length:=by
    rcases Nat.eq_zero_or_pos (rs k).b.length with h0 | h0
    ·exact absurd (List.eq_nil_of_length_eq_zero h0) (a4.1 rfl)
    ·exact h0
   obtain⟨hb1,i1,i2⟩:=hp.iw
   have i3:c.un=(((rs k).b.length+pdU rs (k+1) ps:Nat):Int):=hp.un
   have i4:=Zy8 rs (Stg.C X Y FA fc BA bc::ps) k
   have i5:=Zlr rs hkN
   have i6:pdU rs k (Stg.C X Y FA fc BA bc::ps)=(rs k).b.length+pdU rs (k+1) ps:=rfl
   have h1:=Sep.ordN h 23 [22,3,6,19,7,8,0,10,20,1,2,4,5,9,11,12,13,14,15,16,17,18,21] rfl (by decide)
   simp only[gL,Zbd,pdL,Stg.at_,List.map_cons,List.map_nil,List.cons_append,List.nil_append,List.append_nil,List.drop_succ_cons,List.drop_zero]at h1
   rw[i1,i3]at h1
   have hk1:=hp.keys1 rfl
   refine(vg_came (Q:=Z11 rs d0 a c R (k+(Stg.C X Y FA fc BA bc::ps).length) (opn (Stg.C X Y FA fc BA bc::ps)) (pdE rs (k+1) ps)) (k:=k) (by omega) hrk.b (by omega) (by omega) (by omega) hkl a3 a1 a2 h1 (fun w2 D dc h2=> ?_)).mono (fun ex w' hh=>hh)
   have hD:D=none->dc=0:=fun e=>by
    obtain⟨gb,e2,-⟩:=h2.rowAt (i:=0) rfl hb0
    rw[e]at e2
    cases e2
   have h3:=Sep.ordN h2 24 [4,9,23,0,7,10,11,2,12,13,3,5,6,14,8,15,16,17,18,19,20,21,22] rfl (by decide)
   simp only[Zbo,Zbd,Zam,erS,erZ]at h3
   obtain⟨q1,q2⟩:=Zqq hdk (by omega)
   refine(Zuw (r:=rs k) (F:=pdL rs (k+1) ps++R) (a:=a) (c:=⟨c.inn,c.part,c.evs,((2000-hb1:Nat):Int),((pdU rs (k+1) ps:Nat):Int),c.last,c.bg,c.cl⟩) (v:=v) hrk hP (io:=(pdL rs (k+1) ps).length+io) (by rw[List.getElem?_append_right (by omega),Nat.add_sub_cancel_left];exact hio) (by omega) (by omega) hm hdk.tx q1 q2.1 q2.2 hD hkl a1 a2 a3 hp.ks.nd hk1.nd h3).mono ?_
   rintro ex w' ⟨rfl,v',g1,g2,g3,g4⟩
   refine⟨rfl,k+1,ps,⟨c.inn,c.part,c.evs,((2000-hb1:Nat):Int),((pdU rs (k+1) ps:Nat):Int),c.last,c.bg,c.cl⟩,v',hp.next rfl rfl i1.symm rfl g2 ?_ ?_ rfl,g1,rfl,hln,rfl,⟨rfl,rfl,rfl,rfl⟩,g4⟩
   ·rcases g3 with g | g <;> rw[g]
    ·exact hk1
    ·exact hk1.del _
   ·intro x hx
    rcases g3 with g | g <;> rw[g]
    exact Zna hx
def Zfk (fr:Nat->Frm)(n:Nat):List UInt8:=(List.range n).flatMap fun i=>Zbh (fr i)
theorem Zip (fr:Nat->Frm)(n:Nat):Zfk fr (n+1)=Zfk fr n++Zbh (fr n):=by
 unfold Zfk
 rw[List.range_succ,List.flatMap_append]
 simp
theorem Ziq (fr:Nat->Frm)(n:Nat):Zfk fr (n+1)=Zbh (fr 0)++Zfk (fun i=>fr (i+1)) n:=by
 induction n with
 | zero=>simp[Zfk]
 | succ n ih=>rw[Zip,ih,Zip,List.append_assoc]
theorem Zkb (fr:Nat->Frm)(a b:Nat):Zfk fr (a+b)=Zfk fr a++Zfk (fun i=>fr (a+i)) b:=by
 induction b with
 | zero=>simp[Zfk]
 | succ b ih=>rw[<-Nat.add_assoc,Zip,ih,Zip,List.append_assoc]
theorem Z0d {f:Frm}(h:Zeq f=0):9<=(Zbh f).length:=by
 have:=Zbu h
 omega
theorem Zm5 :∀(n:Nat) (fr:Nat->Frm) (B:List UInt8),(∀j,j < n->Zeq (fr j)=0)->B <+:Zfk fr n->∃m z,m<=n/\B=Zfk fr m++z/\(m < n->z <+:Zbh (fr m)/\z.length < (Zbh (fr m)).length)/\(m=n->z=[])
 | 0,fr,B,_,hB=>⟨0,B,Nat.le_refl _,by simp[Zfk],fun h=>absurd h (Nat.lt_irrefl _),fun _=>by simpa [Zfk]using hB⟩
 | n+1,fr,B,hok,hB=>by
  rw[Ziq]at hB
  rcases Nat.lt_or_ge B.length (Zbh (fr 0)).length with h1 | h1
  ·refine⟨0,B,Nat.zero_le _,by simp[Zfk],fun _=>⟨?_,h1⟩,fun h=>absurd h (by omega)⟩
   exact List.prefix_of_prefix_length_le hB (List.prefix_append _ _) (Nat.le_of_lt h1)
  ·obtain⟨B2,rfl⟩:=List.prefix_of_prefix_length_le (List.prefix_append (Zbh (fr 0)) (Zfk (fun i=>fr (i+1)) n)) hB h1
   rw[List.prefix_append_right_inj]at hB
   obtain⟨m,z,q1,q2,q3,q4⟩:=Zm5 n (fun i=>fr (i+1)) B2 (fun j hj=>hok (j+1) (by omega)) hB
   refine⟨m+1,z,by omega,?_,fun h=>q3 (by omega),fun h=>q4 (by omega)⟩
   rw[Ziq,q2,List.append_assoc]
inductive Pos where
 | S
 | H (k:Nat)
 | M (k:Nat)
 | D (k:Nat)
section
variable (rs:Nat->Rq) (bk:Nat->List UInt8)
def Zh1 (k:Nat):Bool:=decide ((rs k).b.length=0)
def Pos.frm :Pos->Frm
 | .S=>setF
 | .H k=>hdF (sid k) (bk k) (Zh1 rs k) (hdM (bk k)) 0
 | .M k=>hdF (sid k) (bk k) (Zh1 rs k) (hdM (bk k)) 1
 | .D k=>⟨0,1,sid k,(rs k).b⟩
def Zoy (k:Nat):Pos:=if(rs k).b.length=0 then .H (k+1)else .D k
def Pos.next :Pos->Pos
 | .S=> .H 0
 | .H k=>if 1024 < (bk k).length then .M k else Zoy rs k
 | .M k=>Zoy rs k
 | .D k=> .H (k+1)
def Zgg :Nat->Pos
 | 0=> .S
 | j+1=>Pos.next rs bk (Zgg j)
def cntF (k:Nat):Nat:=(if 1024 < (bk k).length then 2 else 1)+(if(rs k).b.length=0 then 0 else 1)
def Zdi :Nat->Nat
 | 0=>1
 | k+1=>Zdi k+cntF rs bk k
def Zcw :Nat->List UInt8
 | 0=> []
 | k+1=>Zcw k++Ztm (sid k) (bk k) (rs k).b
def frA (j:Nat):Frm:=Pos.frm rs bk (Zgg rs bk j)
variable {rs bk}
theorem Zz4 {b:List UInt8}(h:b.length<=1024):hdM b=1:=by unfold hdM Zaq;omega
theorem Zso {b:List UInt8}(h:1024 < b.length)(h2:b.length<=2048):hdM b=2:=by unfold hdM Zaq;omega
theorem Zn4 (k:Nat):Zgg rs bk (Zdi rs bk k)=.H k:=by
 induction k with
 | zero=>rfl
 | succ k ih=>
  show Zgg rs bk (Zdi rs bk k+cntF rs bk k)=_
  unfold cntF
  split <;> split
  ·rename_i h1 h2
   show Pos.next rs bk (Pos.next rs bk (Zgg rs bk (Zdi rs bk k)))=_
   rw[ih]
   simp[Pos.next,Zoy,h1,h2]
  ·rename_i h1 h2
   show Pos.next rs bk (Pos.next rs bk (Pos.next rs bk (Zgg rs bk (Zdi rs bk k))))=_
   rw[ih]
   simp[Pos.next,Zoy,h1,h2]
  ·rename_i h1 h2
   show Pos.next rs bk (Zgg rs bk (Zdi rs bk k))=_
   rw[ih]
   simp[Pos.next,Zoy,h1,h2]
  ·rename_i h1 h2
   show Pos.next rs bk (Pos.next rs bk (Zgg rs bk (Zdi rs bk k)))=_
   rw[ih]
   simp[Pos.next,Zoy,h1,h2]
theorem cat_tot (hb:∀j,(bk j).length<=2048)(k:Nat):Zfk (frA rs bk) (Zdi rs bk k)=Zbh setF++Zcw rs bk k:=by
 induction k with
 | zero=>simp[Zfk,Zdi,Zcw,frA,Zgg,Pos.frm]
 | succ k ih=>
  show Zfk (frA rs bk) (Zdi rs bk k+cntF rs bk k)=Zbh setF++(Zcw rs bk k++Ztm (sid k) (bk k) (rs k).b)
  rw[Zkb,ih,List.append_assoc]
  congr 1
  congr 1
  have h0:=Zn4 (rs:=rs) (bk:=bk) k
  have f0:frA rs bk (Zdi rs bk k+0)=hdF (sid k) (bk k) (Zh1 rs k) (hdM (bk k)) 0:=by show Pos.frm rs bk (Zgg rs bk (Zdi rs bk k))=_;rw[h0];rfl
  have c1:∀f:Nat->Frm,Zfk f 1=Zbh (f 0):=fun f=>by simp[Zfk]
  have c2:∀f:Nat->Frm,Zfk f 2=Zbh (f 0)++Zbh (f 1):=fun f=>by simp[Zfk,List.range_succ]
  have c3:∀f:Nat->Frm,Zfk f 3=Zbh (f 0)++(Zbh (f 1)++Zbh (f 2)):=fun f=>by simp[Zfk,List.range_succ]
  have l0:hdL (sid k) (bk k) (Zh1 rs k) 0=[]:=rfl
  show _=hdL (sid k) (bk k) (Zh1 rs k) (hdM (bk k))++_
  unfold cntF
  by_cases h1:1024 < (bk k).length
  ·have e2:=Zso h1 (hb k)
   have hj:hdL (sid k) (bk k) (Zh1 rs k) (hdM (bk k))=hdL (sid k) (bk k) (Zh1 rs k) 2:=congrArg _ e2
   have p1:Zgg rs bk (Zdi rs bk k+1)=.M k:=by show Pos.next rs bk (Zgg rs bk (Zdi rs bk k))=_;rw[h0];simp[Pos.next,h1]
   have f1:frA rs bk (Zdi rs bk k+1)=hdF (sid k) (bk k) (Zh1 rs k) (hdM (bk k)) 1:=by show Pos.frm rs bk (Zgg rs bk (Zdi rs bk k+1))=_;rw[p1];rfl
   rw[if_pos h1,hj,Zii,Zii,l0,List.nil_append]
   by_cases h2:(rs k).b.length=0
   ·rw[if_pos h2,if_pos h2,c2,f0,f1,List.append_nil]
   ·have p2:Zgg rs bk (Zdi rs bk k+2)=.D k:=by show Pos.next rs bk (Zgg rs bk (Zdi rs bk k+1))=_;rw[p1];simp[Pos.next,Zoy,h2]
    have f2:frA rs bk (Zdi rs bk k+2)=⟨0,1,sid k,(rs k).b⟩:=by show Pos.frm rs bk (Zgg rs bk (Zdi rs bk k+2))=_;rw[p2];rfl
    rw[if_neg h2,if_neg h2,c3,f0,f1,f2,List.append_assoc]
  ·have e2:=Zz4 (b:=bk k) (by omega)
   have hj:hdL (sid k) (bk k) (Zh1 rs k) (hdM (bk k))=hdL (sid k) (bk k) (Zh1 rs k) 1:=congrArg _ e2
   rw[if_neg h1,hj,Zii,l0,List.nil_append]
   by_cases h2:(rs k).b.length=0
   ·rw[if_pos h2,if_pos h2,c1,f0,List.append_nil]
   ·have p1:Zgg rs bk (Zdi rs bk k+1)=.D k:=by show Pos.next rs bk (Zgg rs bk (Zdi rs bk k))=_;rw[h0];simp[Pos.next,Zoy,h1,h2]
    have f1:frA rs bk (Zdi rs bk k+1)=⟨0,1,sid k,(rs k).b⟩:=by show Pos.frm rs bk (Zgg rs bk (Zdi rs bk k+1))=_;rw[p1];rfl
    rw[if_neg h2,if_neg h2,c2,f0,f1]
def Pos.lt (n:Nat):Pos->Prop
 | .S=>True
 | .H k=>k < n
 | .M k=>k < n
 | .D k=>k < n
theorem Zr7 :∀(n j:Nat),j < Zdi rs bk n->(Zgg rs bk j).lt n
 | 0,j,h=>by
  have:j=0:=by have h2:j < 1:=h;omega
  subst this
  trivial
 | n+1,j,h=>by
  have up:∀p:Pos,p.lt n->p.lt (n+1):=fun p hp=>by cases p <;>(simp only[Pos.lt]at hp⊢;try omega)
  rcases Nat.lt_or_ge j (Zdi rs bk n)with h1 | h1
  ·exact up _ (Zr7 n j h1)
  ·obtain⟨i,rfl⟩:=Nat.exists_eq_add_of_le h1
   have h2:i < cntF rs bk n:=by have h3:Zdi rs bk n+i < Zdi rs bk n+cntF rs bk n:=h;omega
   have h0:=Zn4 (rs:=rs) (bk:=bk) n
   have ha:∀p:Pos,p=.H n∨p=.M n∨p=.D n->p.lt (n+1):=fun p hp=>by rcases hp with rfl | rfl | rfl <;>(simp only[Pos.lt];omega)
   refine ha _ ?_
   unfold cntF at h2
   match i,h2 with
   | 0,_=>exact .inl h0
   | 1,h2=>
    show Pos.next rs bk (Zgg rs bk (Zdi rs bk n))=_∨Pos.next rs bk (Zgg rs bk (Zdi rs bk n))=_∨Pos.next rs bk (Zgg rs bk (Zdi rs bk n))=_
    rw[h0]
    by_cases h3:1024 < (bk n).length
    ·simp[Pos.next,h3]
    ·by_cases h4:(rs n).b.length=0
     ·rw[if_neg h3,if_pos h4]at h2;omega
     ·simp[Pos.next,Zoy,h3,h4]
   | 2,h2=>
    show Pos.next rs bk (Pos.next rs bk (Zgg rs bk (Zdi rs bk n)))=_∨Pos.next rs bk (Pos.next rs bk (Zgg rs bk (Zdi rs bk n)))=_∨Pos.next rs bk (Pos.next rs bk (Zgg rs bk (Zdi rs bk n)))=_
    rw[h0]
    by_cases h3:1024 < (bk n).length
    ·by_cases h4:(rs n).b.length=0
     ·rw[if_pos h3,if_pos h4]at h2;omega
     ·simp[Pos.next,Zoy,h3,h4]
    ·rw[if_neg h3]at h2
     split at h2 <;> omega
   | i+3,h2=>split at h2 <;> split at h2 <;> omega
theorem frA_ok {n:Nat}(hn:n<=8)(hb:∀j,j < n->(rs j).b.length<=900)(j:Nat)(hj:j < Zdi rs bk n):Zeq (frA rs bk j)=0:=by
 have h:=Zr7 n j hj
 unfold frA
 generalize Zgg rs bk j=p at h
 cases p with
 | S=>exact Zi3.1
 | H k=>exact Zz5 k (by have:k < n:=h;omega) _ _ _ _
 | M k=>exact Zz5 k (by have:k < n:=h;omega) _ _ _ _
 | D k=>exact Zla k (by have:k < n:=h;omega) 0 1 (by decide) (by decide) _ (by have:=hb k h;omega)
end
end
end Go.Proofs.YtbgnggkgmeagkaaGreatDoor
