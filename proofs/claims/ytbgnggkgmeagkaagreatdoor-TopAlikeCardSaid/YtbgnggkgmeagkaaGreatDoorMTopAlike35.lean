/-
  A part of the proof of TopAlike: each theorem states its own conditions.
-/
import Derived.Test.YtbgnggkgmeagkaaGreatDoorMTopAlike34
set_option linter.unusedSimpArgs false
set_option linter.unusedVariables false
set_option maxRecDepth 100000
set_option maxHeartbeats 16000000
namespace Go.Proofs.YtbgnggkgmeagkaaGreatDoor
open Go.Proofs.Tryz
section
open Go.RowKit Go.Shelf
theorem bf_set {w:World}{F:List Zae}{kb C M n c k bc z oc:Nat}{A B OA:Option Addr}{part:Value}{xs ys:List UInt8}{win last:Int}{ends:Bool}(zs:List UInt8)(u:Nat)
  (hn:n=xs.length) (hk:k=ys.length) (hs:n+k<=1000) (hB:∀w',Sep w' F->Zab w' w'.heap.size 1 B k (bs ys)) (hS:Zdy (xs++ys)=(⟨4,0,0,[]⟩,u,0)) (hu:u<=n+k) (hu0:0 < n+k) (hz:(xs++ys).drop u=zs) (hzl:z=zs.length) (hS2:Zdy zs=(Zhh,0,8))
  (h:Sep w (Zaa kb 126 (Zau C M (.slice OA 0 oc) (.slice A n c) (.slice none 0 0) win last part 0 ends)::Zad 5 1 (.slice A n c) n (bs xs)::F)):
  CA 116 #[.pointer (some ⟨kb,0,none⟩),.slice B k bc] w fun e w'=>e=.returned .nilIface/\∃A' c' QA qc,Sep w' (Zaa kb 126 (Zau C M (.slice OA 0 oc) (.slice A' z c') (.slice QA 9 qc) win last part 0 ends)::Zad 5 1 (.slice A' z c') z (bs zs)::Zad 5 1 (.slice QA 9 qc) 9 (bs Zf5)::F):=by
 refine(Zu9 ⟨4,0,0,[]⟩ zs hn hk hs hB hS hu hu0 hz hzl hS2 (fun ord' out' part' win' last' on' ends' G=>∃QA qc,ord'=.slice OA 0 oc/\out'=.slice QA 9 qc/\part'=part/\win'=win/\last'=last/\on'=0/\ends'=ends/\G=Zad 5 1 (.slice QA 9 qc) 9 (bs Zf5)::F) ?_ h).mono ?_
 ·intro w1 A1 BA c1 b1 h1
  have h2:=((h1.tail).nilRow 5 1).front 1 rfl
  refine(Ztd (n:=0) (xs:=[]) (by decide) h2).mono ?_
  rintro e w' ⟨rfl,A',c',h'⟩
  exact⟨rfl,_,_,_,_,_,_,_,_,⟨A',c',rfl,rfl,rfl,rfl,rfl,rfl,rfl,rfl⟩,(h'.front 2 rfl).front 1 rfl⟩
 ·rintro e w' ⟨rfl,_,_,_,_,_,_,_,_,A',c',⟨QA,qc,rfl,rfl,rfl,rfl,rfl,rfl,rfl,rfl⟩,h'⟩
  exact⟨rfl,A',c',QA,qc,h'⟩
theorem bf_ans {w:World}{F:List Zae}{kb C M n c k bc z:Nat}{A B:Option Addr}{ord out part:Value}{xs ys:List UInt8}{win last:Int}{ends:Bool}(zs:List UInt8)(u:Nat)
  (hn:n=xs.length) (hk:k=ys.length) (hs:n+k<=1000) (hB:∀w',Sep w' F->Zab w' w'.heap.size 1 B k (bs ys)) (hS:Zdy (xs++ys)=(⟨4,1,0,[]⟩,u,0)) (hu:u<=n+k) (hu0:0 < n+k) (hz:(xs++ys).drop u=zs) (hzl:z=zs.length) (hS2:Zdy zs=(Zhh,0,8))
  (h:Sep w (Zaa kb 126 (Zau C M ord (.slice A n c) out win last part 0 ends)::Zad 5 1 (.slice A n c) n (bs xs)::F)):
  CA 116 #[.pointer (some ⟨kb,0,none⟩),.slice B k bc] w fun e w'=>e=.returned .nilIface/\∃A' c',Sep w' (Zaa kb 126 (Zau C M ord (.slice A' z c') out win last part 0 ends)::Zad 5 1 (.slice A' z c') z (bs zs)::F):=by
 refine(Zu9 ⟨4,1,0,[]⟩ zs hn hk hs hB hS hu hu0 hz hzl hS2 (fun ord' out' part' win' last' on' ends' G=>ord'=ord/\out'=out/\part'=part/\win'=win/\last'=last/\on'=0/\ends'=ends/\G=F) ?_ h).mono ?_
 ·intro w1 A1 BA c1 b1 h1
  refine(Zte h1.tail).mono ?_
  rintro e w' ⟨rfl,h'⟩
  exact⟨rfl,_,_,_,_,_,_,_,_,⟨rfl,rfl,rfl,rfl,rfl,rfl,rfl,rfl⟩,h'⟩
 ·rintro e w' ⟨rfl,_,_,_,_,_,_,_,_,A',c',⟨rfl,rfl,rfl,rfl,rfl,rfl,rfl,rfl⟩,h'⟩
  exact⟨rfl,A',c',h'⟩
theorem bf_head {w:World}{F:List Zae}{kb C M X gg hh mc n c k bc z:Nat}{A B:Option Addr}{ord out part q:Value}{xs ys:List UInt8}{win last nw:Int}{ends:Bool}(zs:List UInt8)(u:Nat)
  (hn:n=xs.length) (hk:k=ys.length) (hs:n+k<=1000) (hB:∀w',Sep w' F->Zab w' w'.heap.size 1 B k (bs ys)) (hS:Zdy (xs++ys)=(⟨1,4,1,Zic⟩,u,0)) (hu:u<=n+k) (hu0:0 < n+k) (hz:(xs++ys).drop u=zs) (hzl:z=zs.length) (hS2:Zdy zs=(Zhh,0,8))
  (h:Sep w (Zaa kb 126 (Zau C M ord (.slice A n c) out win last part 0 ends)::Zad 5 1 (.slice A n c) n (bs xs)::Zak M (Zaw (.pointer (some ⟨X,0,none⟩))) mc::Zaa X 130 (Zay nw q false (.slice none 0 0) false (.slice none 0 0) false)::Zaa C 93 (Zai gg hh)::Zbw hh none 0 [] 4096::F)):
  CA 116 #[.pointer (some ⟨kb,0,none⟩),.slice B k bc] w fun e w'=>e=.returned .nilIface/\∃A' c' D dc P',Sep w' (Zaa kb 126 (Zau C M ord (.slice A' z c') out win last P' 0 false)::Zad 5 1 (.slice A' z c') z (bs zs)::Zak M (Zaw (.pointer (some ⟨X,0,none⟩))) mc::Zaa X 130 (Zay nw q false (.slice D 2 dc) true (.slice none 0 0) false)::Zad 41 2 (.slice D 2 dc) 2 (fvs Zn2)::F):=by
 refine(Zu9 ⟨1,4,1,Zic⟩ zs hn hk hs (fun w' hw=>hB w' hw.tail.tail.tail.tail) hS hu hu0 hz hzl hS2 (fun ord' out' part' win' last' on' ends' G=>∃D dc,ord'=ord/\out'=out/\win'=win/\last'=last/\on'=0/\ends'=false/\G=Zak M (Zaw (.pointer (some ⟨X,0,none⟩))) mc::Zaa X 130 (Zay nw q false (.slice D 2 dc) true (.slice none 0 0) false)::Zad 41 2 (.slice D 2 dc) 2 (fvs Zn2)::F) ?_ h).mono ?_
 ·intro w1 A1 BA c1 b1 h1
  have h2:=((((((h1.front 6 rfl).front 6 rfl).front 6 rfl).front 6 rfl).front 5 rfl).front 5 rfl)
  refine(Zqz h2).mono ?_
  rintro e w' ⟨rfl,D,dc,P,h'⟩
  exact⟨rfl,_,_,_,_,_,_,_,_,⟨D,dc,rfl,rfl,rfl,rfl,rfl,rfl,rfl⟩,((h'.front 4 rfl).front 1 rfl)⟩
 ·rintro e w' ⟨rfl,_,_,P',_,_,_,_,_,A',c',⟨D,dc,rfl,rfl,rfl,rfl,rfl,rfl,rfl⟩,h'⟩
  exact⟨rfl,A',c',D,dc,P',h'⟩
theorem bf_data {w:World}{F:List Zae}{kb C M X mc n c k bc z:Nat}{A B:Option Addr}{ord part q rep:Value}{xs ys:List UInt8}{win last nw:Int}{ends:Bool}(zs:List UInt8)(u:Nat)
  (hn:n=xs.length) (hk:k=ys.length) (hs:n+k<=1000) (hB:∀w',Sep w' F->Zab w' w'.heap.size 1 B k (bs ys)) (hS:Zdy (xs++ys)=(⟨0,1,1,Zb6⟩,u,0)) (hu:u<=n+k) (hu0:0 < n+k) (hz:(xs++ys).drop u=zs) (hzl:z=zs.length) (hS2:Zdy zs=(Zhh,0,8))
  (h:Sep w (Zaa kb 126 (Zau C M ord (.slice A n c) (.slice none 0 0) win last part 0 ends)::Zad 5 1 (.slice A n c) n (bs xs)::Zak M (Zaw (.pointer (some ⟨X,0,none⟩))) mc::Zaa X 130 (Zay nw q false rep true (.slice none 0 0) false)::F)):
  CA 116 #[.pointer (some ⟨kb,0,none⟩),.slice B k bc] w fun e w'=>e=.returned .nilIface/\∃A' c' D dc QA qc,Sep w' (Zaa kb 126 (Zau C M ord (.slice A' z c') (.slice QA 13 qc) win last part 0 ends)::Zad 5 1 (.slice A' z c') z (bs zs)::Zad 5 1 (.slice QA 13 qc) 13 (bs Zrn)::Zak M (Zaw (.pointer (some ⟨X,0,none⟩))) mc::Zaa X 130 (Zay nw q false rep true (.slice D 4 dc) true)::Zad 5 1 (.slice D 4 dc) 4 (bs Zb6)::F):=by
 refine(Zu9 ⟨0,1,1,Zb6⟩ zs hn hk hs (fun w' hw=>hB w' hw.tail.tail) hS hu hu0 hz hzl hS2 (fun ord' out' part' win' last' on' ends' G=>∃QA qc D dc,ord'=ord/\out'=.slice QA 13 qc/\part'=part/\win'=win/\last'=last/\on'=0/\ends'=ends/\G=Zad 5 1 (.slice QA 13 qc) 13 (bs Zrn)::Zak M (Zaw (.pointer (some ⟨X,0,none⟩))) mc::Zaa X 130 (Zay nw q false rep true (.slice D 4 dc) true)::Zad 5 1 (.slice D 4 dc) 4 (bs Zb6)::F) ?_ h).mono ?_
 ·intro w1 A1 BA c1 b1 h1
  have h2:=((((((h1.nilRow 5 1).front 5 rfl).front 5 rfl).front 2 rfl).front 4 rfl).front 4 rfl)
  refine(Zq0 (n:=0) (xs:=[]) (by decide) h2).mono ?_
  rintro e w' ⟨rfl,A',c',D,dc,h'⟩
  exact⟨rfl,_,_,_,_,_,_,_,_,⟨A',c',D,dc,rfl,rfl,rfl,rfl,rfl,rfl,rfl,rfl⟩,((h'.front 5 rfl).front 1 rfl)⟩
 ·rintro e w' ⟨rfl,_,_,_,_,_,_,_,_,A',c',⟨QA,qc,D,dc,rfl,rfl,rfl,rfl,rfl,rfl,rfl,rfl⟩,h'⟩
  exact⟨rfl,A',c',D,dc,QA,qc,h'⟩
theorem bk_ans {w:World}{F:List Zae}{ib b c kb C M c0:Nat}{A0:Option Addr}{ord out part:Value}{win last:Int}{ends:Bool}(hi:F[ib]? =some (Zad 5 1 (.slice (some ⟨b,0,none⟩) 9 c) 9 (bs Zf5)))
  (h0:Sep w (Zaa kb 126 (Zau C M ord (.slice A0 0 c0) out win last part 0 ends)::Zad 5 1 (.slice A0 0 c0) 0 []::F)):
  CA 63 #[.pointer (some ⟨kb,0,none⟩),.slice (some ⟨b,0,none⟩) 9 c,.int .i64 7] w fun e w'=>e=.returned (.bool true)/\∃A' c',Sep w' (Zaa kb 126 (Zau C M ord (.slice A' 0 c') out win last part 0 ends)::Zad 5 1 (.slice A' 0 c') 0 []::F):=by
 have hc:=h0.cap (i:=ib+2) hi
 have ca0:¬(c=7):=by omega
 have cb0:7<=c:=by omega
 have H0:=Hd (fun bc=>Zd7 (n:=0) (k:=7) (bc:=bc) (xs:=[]) (ys:=[0,0,0,4,1,0,0]) rfl rfl (by decide) (Za4 (i:=ib) hi 0 7 _ rfl (by decide) (by decide)) (by kernel_rfl) h0)
 clear h0
 go_enter func63,ntmps63
 go_wp2_with fail
 refine wp_loop_rounds 3 ?_
 rw[rounds_succ]
 go_wp2_with fail
 refine(show Calls _ _ _ _ _ from H0.out _).mono ?_
 rintro e w1 ⟨rfl,A1,c1,h1⟩
 have H1:=Hd (fun bc=>bf_ans (n:=7) (k:=2) (bc:=bc) (xs:=[0,0,0,4,1,0,0]) (ys:=[0,0]) [] 9 rfl rfl (by decide) (Za4 (i:=ib) hi 7 2 _ rfl (by decide) (by decide)) (by kernel_rfl) (by decide) (by decide) rfl (z:=0) rfl (by kernel_rfl) h1)
 clear H0 h1
 go_wp2_with fail
 rw[rounds_succ]
 go_wp2_with fail
 refine(show Calls _ _ _ _ _ from H1.out _).mono ?_
 rintro e w2 ⟨rfl,A2,c2,h2⟩
 have H2:=Hd h2
 clear H1 h2
 go_wp2_with fail
 all_goals
  rw[rounds_succ]
  go_wp2
  go_ret
  exact⟨rfl,A2,c2,H2.out⟩
theorem bk_set {w:World}{F:List Zae}{ib b c kb C M c0 oc:Nat}{A0 OA:Option Addr}{part:Value}{win last:Int}{ends:Bool}(hi:F[ib]? =some (Zad 5 1 (.slice (some ⟨b,0,none⟩) 9 c) 9 (bs Zf6)))
  (h0:Sep w (Zaa kb 126 (Zau C M (.slice OA 0 oc) (.slice A0 0 c0) (.slice none 0 0) win last part 0 ends)::Zad 5 1 (.slice A0 0 c0) 0 []::F)):
  CA 63 #[.pointer (some ⟨kb,0,none⟩),.slice (some ⟨b,0,none⟩) 9 c,.int .i64 7] w fun e w'=>e=.returned (.bool true)/\∃A' c' QA qc,Sep w' (Zaa kb 126 (Zau C M (.slice OA 0 oc) (.slice A' 0 c') (.slice QA 9 qc) win last part 0 ends)::Zad 5 1 (.slice A' 0 c') 0 []::Zad 5 1 (.slice QA 9 qc) 9 (bs Zf5)::F):=by
 have hc:=h0.cap (i:=ib+2) hi
 have ca0:¬(c=7):=by omega
 have cb0:7<=c:=by omega
 have H0:=Hd (fun bc=>Zd7 (n:=0) (k:=7) (bc:=bc) (xs:=[]) (ys:=[0,0,0,4,0,0,0]) rfl rfl (by decide) (Za4 (i:=ib) hi 0 7 _ rfl (by decide) (by decide)) (by kernel_rfl) h0)
 clear h0
 go_enter func63,ntmps63
 go_wp2_with fail
 refine wp_loop_rounds 3 ?_
 rw[rounds_succ]
 go_wp2_with fail
 refine(show Calls _ _ _ _ _ from H0.out _).mono ?_
 rintro e w1 ⟨rfl,A1,c1,h1⟩
 have H1:=Hd (fun bc=>bf_set (n:=7) (k:=2) (bc:=bc) (xs:=[0,0,0,4,0,0,0]) (ys:=[0,0]) [] 9 rfl rfl (by decide) (Za4 (i:=ib) hi 7 2 _ rfl (by decide) (by decide)) (by kernel_rfl) (by decide) (by decide) rfl (z:=0) rfl (by kernel_rfl) h1)
 clear H0 h1
 go_wp2_with fail
 rw[rounds_succ]
 go_wp2_with fail
 refine(show Calls _ _ _ _ _ from H1.out _).mono ?_
 rintro e w2 ⟨rfl,A2,c2,QA,qc,h2⟩
 have H2:=Hd h2
 clear H1 h2
 go_wp2_with fail
 all_goals
  rw[rounds_succ]
  go_wp2
  go_ret
  exact⟨rfl,A2,c2,QA,qc,H2.out⟩
theorem fd_wide {w:World}{F:List Zae}{ib b c g kb C S M Li St CM JM c0 oc:Nat}{A0 OA:Option Addr}{Rt log out evs:Value}{iw un last:Int}(ho:Zo2 F OA oc)(hi:F[ib]? =some (Zad 5 1 (.slice (some ⟨b,0,none⟩) 13 c) 13 (bs Zrn)))
  (h0:Sep w (Zaa g 120 (Za7 kb Rt Li St CM JM last log)::Zaa kb 200 (Zaf C S M (.slice OA 0 oc) (.slice A0 0 c0) out iw 1996 un true (.pointer none) evs)::Zad 5 1 (.slice A0 0 c0) 0 []::F)):
  CA 17 #[.pointer (some ⟨g,0,none⟩),.slice (some ⟨b,0,none⟩) 13 c,.int .i64 3] w fun e w'=>e=.returned (.bool true)/\∃A' c',Sep w' (Zaa g 120 (Za7 kb Rt Li St CM JM last log)::Zaa kb 200 (Zaf C S M (.slice OA 0 oc) (.slice A' 0 c') out iw 2000 un true (.pointer none) (.slice none 0 0))::Zad 5 1 (.slice A' 0 c') 0 []::F):=by
 have hc:=h0.cap (i:=ib+3) hi
 have ca0:¬(c=3):=by omega
 have cb0:3<=c:=by omega
 have ca1:¬(c-3=3):=by omega
 have cb1:3<=c-3:=by omega
 have ca2:¬(c-3-3=3):=by omega
 have cb2:3<=c-3-3:=by omega
 have ca3:¬(c-3-3-3=3):=by omega
 have cb3:3<=c-3-3-3:=by omega
 have H0:=Hd (fun bc=>Zev (n:=0) (k:=3) (bc:=bc) (xs:=[]) (ys:=[0,0,4]) rfl rfl (by decide) (Za4 (i:=ib) hi 0 3 _ rfl (by decide) (by decide)) (by kernel_rfl) h0)
 clear h0
 go_enter func17,ntmps17
 go_wp2_with fail
 refine wp_loop_rounds 6 ?_
 rw[rounds_succ]
 go_wp2_with fail
 refine(show Calls _ _ _ _ _ from H0.out _).mono ?_
 rintro e w1 ⟨rfl,A1,c1,h1⟩
 have H1:=Hd (fun bc=>Zev (n:=3) (k:=3) (bc:=bc) (xs:=[0,0,4]) (ys:=[7,0,0]) rfl rfl (by decide) (Za4 (i:=ib) hi 3 3 _ rfl (by decide) (by decide)) (by kernel_rfl) h1)
 clear H0 h1
 go_wp2_with fail
 rw[rounds_succ]
 go_wp2_with fail
 refine(show Calls _ _ _ _ _ from H1.out _).mono ?_
 rintro e w2 ⟨rfl,A2,c2,h2⟩
 have H2:=Hd (fun bc=>Zev (n:=6) (k:=3) (bc:=bc) (xs:=[0,0,4,7,0,0]) (ys:=[0,0,0]) rfl rfl (by decide) (Za4 (i:=ib) hi 6 3 _ rfl (by decide) (by decide)) (by kernel_rfl) h2)
 clear H1 h2
 go_wp2_with fail
 rw[rounds_succ]
 go_wp2_with fail
 refine(show Calls _ _ _ _ _ from H2.out _).mono ?_
 rintro e w3 ⟨rfl,A3,c3,h3⟩
 have H3:=Hd (fun bc=>Zev (n:=9) (k:=3) (bc:=bc) (xs:=[0,0,4,7,0,0,0,0,0]) (ys:=[0,0,0]) rfl rfl (by decide) (Za4 (i:=ib) hi 9 3 _ rfl (by decide) (by decide)) (by kernel_rfl) h3)
 clear H2 h3
 go_wp2_with fail
 rw[rounds_succ]
 go_wp2_with fail
 refine(show Calls _ _ _ _ _ from H3.out _).mono ?_
 rintro e w4 ⟨rfl,A4,c4,h4⟩
 have H4:=Hd (fun bc=>gf_wide (n:=12) (k:=1) (bc:=bc) (xs:=[0,0,4,7,0,0,0,0,0,0,0,0]) (ys:=[4]) [] 13 ho rfl rfl (by decide) (Za4 (i:=ib) hi 12 1 _ rfl (by decide) (by decide)) (by kernel_rfl) (by decide) (by decide) rfl (z:=0) rfl (by kernel_rfl) h4)
 clear H3 h4
 go_wp2_with fail
 rw[rounds_succ]
 go_wp2_with fail
 refine(show Calls _ _ _ _ _ from H4.out _).mono ?_
 rintro e w5 ⟨rfl,A5,c5,h5⟩
 have H5:=Hd h5
 clear H4 h5
 go_wp2_with fail
 all_goals
  rw[rounds_succ]
  go_wp2
  go_ret
  exact⟨rfl,A5,c5,H5.out⟩
theorem bk_rep {w:World}{F:List Zae}{ib b c kb C M X gg hh mc c0:Nat}{A0:Option Addr}{ord part q:Value}{win last nw:Int}{ends:Bool}(hi:F[ib]? =some (Zad 5 1 (.slice (some ⟨b,0,none⟩) 26 c) 26 (bs rsB)))
  (h0:Sep w (Zaa kb 126 (Zau C M ord (.slice A0 0 c0) (.slice none 0 0) win last part 0 ends)::Zad 5 1 (.slice A0 0 c0) 0 []::Zak M (Zaw (.pointer (some ⟨X,0,none⟩))) mc::Zaa X 130 (Zay nw q false (.slice none 0 0) false (.slice none 0 0) false)::Zaa C 93 (Zai gg hh)::Zbw hh none 0 [] 4096::F)):
  CA 63 #[.pointer (some ⟨kb,0,none⟩),.slice (some ⟨b,0,none⟩) 26 c,.int .i64 3] w fun e w'=>e=.returned (.bool true)/\∃A' c' D dc DB db QA qc P',Sep w' (Zaa kb 126 (Zau C M ord (.slice A' 0 c') (.slice QA 13 qc) win last P' 0 false)::Zad 5 1 (.slice A' 0 c') 0 []::Zad 5 1 (.slice QA 13 qc) 13 (bs Zrn)::Zak M (Zaw (.pointer (some ⟨X,0,none⟩))) mc::Zaa X 130 (Zay nw q false (.slice D 2 dc) true (.slice DB 4 db) true)::Zad 5 1 (.slice DB 4 db) 4 (bs Zb6)::Zad 41 2 (.slice D 2 dc) 2 (fvs Zn2)::F):=by
 have hc:=h0.cap (i:=ib+6) hi
 have ca0:¬(c=3):=by omega
 have cb0:3<=c:=by omega
 have ca1:¬(c-3=3):=by omega
 have cb1:3<=c-3:=by omega
 have ca2:¬(c-3-3=3):=by omega
 have cb2:3<=c-3-3:=by omega
 have ca3:¬(c-3-3-3=3):=by omega
 have cb3:3<=c-3-3-3:=by omega
 have ca4:¬(c-3-3-3-3=3):=by omega
 have cb4:3<=c-3-3-3-3:=by omega
 have ca5:¬(c-3-3-3-3-3=3):=by omega
 have cb5:3<=c-3-3-3-3-3:=by omega
 have ca6:¬(c-3-3-3-3-3-3=3):=by omega
 have cb6:3<=c-3-3-3-3-3-3:=by omega
 have ca7:¬(c-3-3-3-3-3-3-3=3):=by omega
 have cb7:3<=c-3-3-3-3-3-3-3:=by omega
 have H0:=Hd (fun bc=>Zd7 (n:=0) (k:=3) (bc:=bc) (xs:=[]) (ys:=[0,0,4]) rfl rfl (by decide) (Za4 (i:=ib+4) hi 0 3 _ rfl (by decide) (by decide)) (by kernel_rfl) h0)
 clear h0
 go_enter func63,ntmps63
 go_wp2_with fail
 refine wp_loop_rounds 10 ?_
 rw[rounds_succ]
 go_wp2_with fail
 refine(show Calls _ _ _ _ _ from H0.out _).mono ?_
 rintro e w1 ⟨rfl,A1,c1,h1⟩
 have H1:=Hd (fun bc=>Zd7 (n:=3) (k:=3) (bc:=bc) (xs:=[0,0,4]) (ys:=[1,4,0]) rfl rfl (by decide) (Za4 (i:=ib+4) hi 3 3 _ rfl (by decide) (by decide)) (by kernel_rfl) h1)
 clear H0 h1
 go_wp2_with fail
 rw[rounds_succ]
 go_wp2_with fail
 refine(show Calls _ _ _ _ _ from H1.out _).mono ?_
 rintro e w2 ⟨rfl,A2,c2,h2⟩
 have H2:=Hd (fun bc=>Zd7 (n:=6) (k:=3) (bc:=bc) (xs:=[0,0,4,1,4,0]) (ys:=[0,0,1]) rfl rfl (by decide) (Za4 (i:=ib+4) hi 6 3 _ rfl (by decide) (by decide)) (by kernel_rfl) h2)
 clear H1 h2
 go_wp2_with fail
 rw[rounds_succ]
 go_wp2_with fail
 refine(show Calls _ _ _ _ _ from H2.out _).mono ?_
 rintro e w3 ⟨rfl,A3,c3,h3⟩
 have H3:=Hd (fun bc=>Zd7 (n:=9) (k:=3) (bc:=bc) (xs:=[0,0,4,1,4,0,0,0,1]) (ys:=[133,71,1]) rfl rfl (by decide) (Za4 (i:=ib+4) hi 9 3 _ rfl (by decide) (by decide)) (by kernel_rfl) h3)
 clear H2 h3
 go_wp2_with fail
 rw[rounds_succ]
 go_wp2_with fail
 refine(show Calls _ _ _ _ _ from H3.out _).mono ?_
 rintro e w4 ⟨rfl,A4,c4,h4⟩
 have H4:=Hd (fun bc=>bf_head (n:=12) (k:=3) (bc:=bc) (xs:=[0,0,4,1,4,0,0,0,1,133,71,1]) (ys:=[52,0,0]) [0,0] 13 rfl rfl (by decide) (Za4 (i:=ib) hi 12 3 _ rfl (by decide) (by decide)) (by kernel_rfl) (by decide) (by decide) rfl (z:=2) rfl (by kernel_rfl) h4)
 clear H3 h4
 go_wp2_with fail
 rw[rounds_succ]
 go_wp2_with fail
 refine(show Calls _ _ _ _ _ from H4.out _).mono ?_
 rintro e w5 ⟨rfl,A5,c5,D,dc,P,h5⟩
 have H5:=Hd (fun bc=>Zd7 (n:=2) (k:=3) (bc:=bc) (xs:=[0,0]) (ys:=[4,0,1]) rfl rfl (by decide) (Za4 (i:=ib+3) hi 15 3 _ rfl (by decide) (by decide)) (by kernel_rfl) h5)
 clear H4 h5
 go_wp2_with fail
 rw[rounds_succ]
 go_wp2_with fail
 refine(show Calls _ _ _ _ _ from H5.out _).mono ?_
 rintro e w6 ⟨rfl,A6,c6,h6⟩
 have H6:=Hd (fun bc=>Zd7 (n:=5) (k:=3) (bc:=bc) (xs:=[0,0,4,0,1]) (ys:=[0,0,0]) rfl rfl (by decide) (Za4 (i:=ib+3) hi 18 3 _ rfl (by decide) (by decide)) (by kernel_rfl) h6)
 clear H5 h6
 go_wp2_with fail
 rw[rounds_succ]
 go_wp2_with fail
 refine(show Calls _ _ _ _ _ from H6.out _).mono ?_
 rintro e w7 ⟨rfl,A7,c7,h7⟩
 have H7:=Hd (fun bc=>Zd7 (n:=8) (k:=3) (bc:=bc) (xs:=[0,0,4,0,1,0,0,0]) (ys:=[1,47,112]) rfl rfl (by decide) (Za4 (i:=ib+3) hi 21 3 _ rfl (by decide) (by decide)) (by kernel_rfl) h7)
 clear H6 h7
 go_wp2_with fail
 rw[rounds_succ]
 go_wp2_with fail
 refine(show Calls _ _ _ _ _ from H7.out _).mono ?_
 rintro e w8 ⟨rfl,A8,c8,h8⟩
 have H8:=Hd (fun bc=>bf_data (n:=11) (k:=2) (bc:=bc) (xs:=[0,0,4,0,1,0,0,0,1,47,112]) (ys:=[33,120]) [] 13 rfl rfl (by decide) (Za4 (i:=ib+1) hi 24 2 _ rfl (by decide) (by decide)) (by kernel_rfl) (by decide) (by decide) rfl (z:=0) rfl (by kernel_rfl) h8)
 clear H7 h8
 go_wp2_with fail
 rw[rounds_succ]
 go_wp2_with fail
 refine(show Calls _ _ _ _ _ from H8.out _).mono ?_
 rintro e w9 ⟨rfl,A9,c9,DB,db,QA,qc,h9⟩
 have H9:=Hd h9
 clear H8 h9
 go_wp2_with fail
 all_goals
  rw[rounds_succ]
  go_wp2
  go_ret
  exact⟨rfl,A9,c9,D,dc,DB,db,QA,qc,P,H9.out⟩
def cliB :List UInt8:=[0,0,0,4,0,0,0,0,0,0,0,8,1,4,0,0,0,1,130,67,2,47,112,68,1,104,0,0,1,0,1,0,0,0,1,120]
theorem fd_cli {w w0:World}{F:List Zae}{io ib b c g kb C S M MS gg hh Li LM LM' St CM JM c0 rc:Nat}{A0 RA:Option Addr}{log evs:Value}{began:Bool}(hP:Pow w0)(hio:F[io]? =some (Zel w0))(hi:F[ib]? =some (Zad 5 1 (.slice (some ⟨b,0,none⟩) 36 c) 36 (bs cliB)))
  (h0:Sep w (Zaa g 120 (Za7 kb (.slice RA 1 rc) Li St CM JM 0 log)::Zaa kb 200 (Zaf C S M (.slice none 0 0) (.slice A0 0 c0) (.slice none 0 0) 2000 2000 0 began (.pointer none) evs)::Zad 5 1 (.slice A0 0 c0) 0 []::Zak CM #[] 0::Zak M #[] 0::Zaa S 254 (Zbf MS 0)::Zak MS #[] 0::Zaa C 93 (Zai gg hh)::Zbw hh none 0 [] 4096::Zaa Li 193 #[.int .i64 10,.int .i64 10,.map (some LM),.map (some LM')]::Zak LM' #[] 0::Zak LM #[] 0::Zaa St 203 #[.slice none 0 0]::Zad 47 3 (.slice RA 1 rc) 1 rtV::Zak JM #[] 0::F)):
  CA 17 #[.pointer (some ⟨g,0,none⟩),.slice (some ⟨b,0,none⟩) 36 c,.int .i64 7] w fun e w'=>e=.returned (.bool true)/\∃A' c' QA qc X Y FA fc D dc fa fc' ba bc' ad jc evs',Sep w' (Zaa g 120 (Za7 kb (.slice RA 1 rc) Li St CM JM 1 log)::Zaa kb 200 (Zaf C S M (.slice none 0 0) (.slice A' 0 c') (.slice QA 9 qc) 1999 2000 0 true (.pointer none) evs')::Zad 5 1 (.slice A' 0 c') 0 []::
   Zak CM (Zaw (.pointer (some ⟨Y,0,none⟩))) 1::Zaa Y 146 (Zd0 (.slice FA 3 fc) (.slice D 1 dc) (.string ⟨#[80,79,83,84]⟩) (.string ⟨#[47,112]⟩) (.string ⟨#[104]⟩) (.slice fa 0 fc') (.slice ba 1 bc') 0)::Zak JM (Zaw (.agg #[.int .i64 1,.string ⟨#[97,108,108]⟩,.slice (some ad) 39 jc])) 1::Zir ad Zf1::
   Zak M (Zaw (.pointer (some ⟨X,0,none⟩))) 1::Zaa X 313 (Zbn 1999 2000 0 (.slice none 0 0) false false)::Zaa S 254 (Zbf MS 1)::Zak MS (Zaw (.int .i64 2)) 1::Zaa C 93 (Zai gg hh)::Zad 5 1 (.slice QA 9 qc) 9 (bs Zf5)::F):=by
 have hc:=h0.cap (i:=ib+15) hi
 have ca0:¬(c=7):=by omega
 have cb0:7<=c:=by omega
 have ca1:¬(c-7=7):=by omega
 have cb1:7<=c-7:=by omega
 have ca2:¬(c-7-7=7):=by omega
 have cb2:7<=c-7-7:=by omega
 have ca3:¬(c-7-7-7=7):=by omega
 have cb3:7<=c-7-7-7:=by omega
 have ca4:¬(c-7-7-7-7=7):=by omega
 have cb4:7<=c-7-7-7-7:=by omega
 have H0:=Hd (fun bc=>Zev (n:=0) (k:=7) (bc:=bc) (xs:=[]) (ys:=[0,0,0,4,0,0,0]) rfl rfl (by decide) (Za4 (i:=ib+12) hi 0 7 _ rfl (by decide) (by decide)) (by kernel_rfl) h0)
 clear h0
 go_enter func17,ntmps17
 go_wp2_with fail
 refine wp_loop_rounds 7 ?_
 rw[rounds_succ]
 go_wp2_with fail
 refine(show Calls _ _ _ _ _ from H0.out _).mono ?_
 rintro e w1 ⟨rfl,A1,c1,h1⟩
 have H1:=Hd (fun bc=>gf_set (n:=7) (k:=7) (bc:=bc) (xs:=[0,0,0,4,0,0,0]) (ys:=[0,0,0,0,8,1,4]) [0,0,8,1,4] 9 rfl rfl (by decide) (Za4 (i:=ib+12) hi 7 7 _ rfl (by decide) (by decide)) (by kernel_rfl) (by decide) (by decide) rfl (z:=5) rfl (by kernel_rfl) h1)
 clear H0 h1
 go_wp2_with fail
 rw[rounds_succ]
 go_wp2_with fail
 refine(show Calls _ _ _ _ _ from H1.out _).mono ?_
 rintro e w2 ⟨rfl,A2,c2,QA,qc,h2⟩
 have H2:=Hd (fun bc=>Zev (n:=5) (k:=7) (bc:=bc) (xs:=[0,0,8,1,4]) (ys:=[0,0,0,1,130,67,2]) rfl rfl (by decide) (Za4 (i:=ib+13) hi 14 7 _ rfl (by decide) (by decide)) (by kernel_rfl) h2)
 clear H1 h2
 go_wp2_with fail
 rw[rounds_succ]
 go_wp2_with fail
 refine(show Calls _ _ _ _ _ from H2.out _).mono ?_
 rintro e w3 ⟨rfl,A3,c3,h3⟩
 have h3':=(((((((((h3.front 9 rfl).front 9 rfl).front 9 rfl).front 9 rfl).front 9 rfl).front 9 rfl).front 8 rfl).front 8 rfl).front 8 rfl)
 have H3:=Hd (fun bc=>gf_head (n:=12) (k:=7) (bc:=bc) (xs:=[0,0,8,1,4,0,0,0,1,130,67,2]) (ys:=[47,112,68,1,104,0,0]) [0,0] 17 rfl rfl (by decide) (Za4 (i:=ib+7) hi 21 7 _ rfl (by decide) (by decide)) (by kernel_rfl) (by decide) (by decide) rfl (z:=2) rfl (by kernel_rfl) h3')
 clear h3'
 clear H2 h3
 go_wp2_with fail
 rw[rounds_succ]
 go_wp2_with fail
 refine(show Calls _ _ _ _ _ from H3.out _).mono ?_
 rintro e w4 ⟨rfl,A4,c4,Y,X,FA,fc,ev4,h4⟩
 have H4:=Hd (fun bc=>Zev (n:=2) (k:=7) (bc:=bc) (xs:=[0,0]) (ys:=[1,0,1,0,0,0,1]) rfl rfl (by decide) (Za4 (i:=ib+15) hi 28 7 _ rfl (by decide) (by decide)) (by kernel_rfl) h4)
 clear H3 h4
 go_wp2_with fail
 rw[rounds_succ]
 go_wp2_with fail
 refine(show Calls _ _ _ _ _ from H4.out _).mono ?_
 rintro e w5 ⟨rfl,A5,c5,h5⟩
 have h5':=((((((((((((((((h5.front 17 rfl).front 17 rfl).front 17 rfl).front 17 rfl).front 17 rfl).front 17 rfl).front 15 rfl).front 15 rfl).front 15 rfl).front 15 rfl).front 15 rfl).front 15 rfl).front 15 rfl).front 15 rfl).front 15 rfl).front 15 rfl)
 have H5:=Hd (fun bc=>gf_data (n:=9) (k:=1) (bc:=bc) (xs:=[0,0,1,0,1,0,0,0,1]) (ys:=[120]) [] 10 hP (io:=io+2) hio rfl rfl (by decide) (Za4 (i:=ib+2) hi 35 1 _ rfl (by decide) (by decide)) (by kernel_rfl) (by decide) (by decide) rfl (z:=0) rfl (by kernel_rfl) h5')
 clear h5'
 clear H4 h5
 go_wp2_with fail
 rw[rounds_succ]
 go_wp2_with fail
 refine(show Calls _ _ _ _ _ from H5.out _).mono ?_
 rintro e w6 ⟨rfl,A6,c6,fa,fc',ba,bc',ad,jc,D,dc,ev6,h6⟩
 have H6:=Hd h6
 clear H5 h6
 go_wp2_with fail
 all_goals
  rw[rounds_succ]
  go_wp2
  go_ret
  exact⟨rfl,A6,c6,QA,qc,X,Y,FA,fc,D,dc,fa,fc',ba,bc',ad,jc,ev6,H6.out⟩
theorem fd_nil (w:World)(p:Value)(c:Nat)(z:Int):
  CA 17 #[p,.slice none 0 c,.int .i64 z] w fun e w'=>e=.returned (.bool true)/\w=w':=by
 go_enter func17,ntmps17
 go_wp2_with fail
 refine wp_loop_rounds 1 ?_
 rw[rounds_succ]
 go_wp2
 go_ret
 exact⟨rfl,rfl⟩
theorem bk_nil (w:World)(p:Value)(c:Nat)(z:Int):
  CA 63 #[p,.slice none 0 c,.int .i64 z] w fun e w'=>e=.returned (.bool true)/\w=w':=by
 go_enter func63,ntmps63
 go_wp2_with fail
 refine wp_loop_rounds 1 ?_
 rw[rounds_succ]
 go_wp2
 go_ret
 exact⟨rfl,rfl⟩
theorem cr_seven {w w0:World}{F:List Zae}{io kb C M oc c G K gg rc Li LM LM' St CM JM S MS M2 C2 hh cc:Nat}{A OA RA A2:Option Addr}(hP:Pow w0)(hio:F[io]? =some (Zel w0))
  (h0:Sep w (Zaa kb 126 (Zau C M (.slice OA 0 oc) (.slice none 0 0) (.slice A 36 c) 1999 1 (.slice none 0 0) 0 false)::Zad 5 1 (.slice A 36 c) 36 (bs cliB)::Zaa G 120 (Za7 K (.slice RA 1 rc) Li St CM JM 0 (.slice none 0 0))::Zaa K 200 (Zaf C2 S M2 (.slice none 0 0) (.slice none 0 0) (.slice A2 9 cc) 2000 2000 0 false (.pointer none) (.slice none 0 0))::Zad 5 1 (.slice A2 9 cc) 9 (bs Zf6)::
   Zak CM #[] 0::Zak M2 #[] 0::Zaa S 254 (Zbf MS 0)::Zak MS #[] 0::Zaa C2 93 (Zai gg hh)::Zbw hh none 0 [] 4096::Zaa Li 193 #[.int .i64 10,.int .i64 10,.map (some LM),.map (some LM')]::Zak LM' #[] 0::Zak LM #[] 0::Zaa St 203 #[.slice none 0 0]::Zad 47 3 (.slice RA 1 rc) 1 rtV::Zak JM #[] 0::F)):
  CA 22 #[.pointer (some ⟨kb,0,none⟩),.pointer (some ⟨G,0,none⟩),.int .i64 7] w fun e w'=>e=.returned (.bool true)/\∃A0 c0 A1 c1 X Y FA fc D dc fa fc' ba bc' ad jc,
   Sep w' (Zaa kb 126 (Zau C M (.slice OA 0 oc) (.slice A0 0 c0) (.slice none 0 0) 1999 1 (.slice none 0 0) 0 false)::Zad 5 1 (.slice A0 0 c0) 0 []::Zaa G 120 (Za7 K (.slice RA 1 rc) Li St CM JM 1 (.slice none 0 0))::Zaa K 200 (Zaf C2 S M2 (.slice none 0 0) (.slice A1 0 c1) (.slice none 0 0) 1999 2000 0 true (.pointer none) (.slice none 0 0))::
   Zak CM (Zaw (.pointer (some ⟨Y,0,none⟩))) 1::Zaa Y 146 (Zd0 (.slice FA 3 fc) (.slice D 1 dc) (.string ⟨#[80,79,83,84]⟩) (.string ⟨#[47,112]⟩) (.string ⟨#[104]⟩) (.slice fa 0 fc') (.slice ba 1 bc') 0)::Zak JM (Zaw (.agg #[.int .i64 1,.string ⟨#[97,108,108]⟩,.slice (some ad) 39 jc])) 1::Zir ad Zf1::
   Zak M2 (Zaw (.pointer (some ⟨X,0,none⟩))) 1::Zaa X 313 (Zbn 1999 2000 0 (.slice none 0 0) false false)::Zaa S 254 (Zbf MS 1)::Zak MS (Zaw (.int .i64 2)) 1::Zaa C2 93 (Zai gg hh)::Zad 5 1 (.slice A1 0 c1) 0 []::F):=by
 obtain⟨b,rfl,-⟩:=h0.rowAt (i:=1) rfl (by decide)
 obtain⟨b2,rfl,-⟩:=h0.rowAt (i:=4) rfl (by decide)
 have H0:=Hd (Zlm h0)
 clear h0
 go_enter func22,ntmps22
 go_wp2_with fail
 refine wp_loop_rounds 3 ?_
 rw[rounds_succ]
 go_wp2_with fail
 refine Mo H0 ?_
 rintro e w1 ⟨rfl,h1⟩
 have ho1:=Sep.ordN h1 17 [2,3,0,1,4,5,6,7,8,9,10,11,12,13,14,15,16] rfl (by decide)
 simp only[Zbo,Zam,Zbd,erS,erZ,List.cons_append,List.nil_append,List.drop_succ_cons,List.drop_zero,List.drop_nil,List.append_nil]at ho1
 have H1:=Hd (Zk9 ho1)
 clear H0 h1
 go_wp2_with fail
 refine Mo H1 ?_
 rintro e w2 ⟨rfl,h2⟩
 have ho2:=h2.nilRow 5 1
 have ho3:=Sep.ordN ho2 18 [1,2,0,6,7,8,9,10,11,12,13,14,15,16,17,3,4,5] rfl (by decide)
 simp only[Zbo,Zam,Zbd,erS,erZ,List.cons_append,List.nil_append,List.drop_succ_cons,List.drop_zero,List.drop_nil,List.append_nil]at ho3
 have H2:=Hd (fd_cli hP (io:=io+3) hio (ib:=1) rfl ho3)
 clear H1 h2
 go_wp2_with fail
 refine Mo H2 ?_
 rintro e w3 ⟨rfl,A3,c3,QA,qc,X,Y,FA,fc,D,dc,fa,fc',ba,bc',ad,jc,ev3,h3⟩
 have ho4:=h3.nilRow 5 1
 have ho5:=Sep.ordN ho4 17 [14,0,1,2,3,4,5,6,7,8,9,10,11,12,13,15,16] rfl (by decide)
 simp only[Zbo,Zam,Zbd,erS,erZ,List.cons_append,List.nil_append,List.drop_succ_cons,List.drop_zero,List.drop_nil,List.append_nil]at ho5
 have H3:=Hd (bk_set (ib:=14) rfl ho5)
 obtain⟨q,rfl,-⟩:=h3.rowAt (i:=12) rfl (by decide)
 clear H2 h3
 go_wp2_with fail
 refine Mo H3 ?_
 rintro e w4 ⟨rfl,A4,c4,QB,qb,h4⟩
 obtain⟨q2,rfl,-⟩:=h4.rowAt (i:=2) rfl (by decide)
 have H4:=Hd (Zlm h4)
 clear H3 h4
 go_wp2_with fail
 rw[rounds_succ]
 go_wp2_with fail
 refine Mo H4 ?_
 rintro e w5 ⟨rfl,h5⟩
 have ho6:=Sep.ordN h5 18 [3,4,0,1,2,5,6,7,8,9,10,11,12,13,14,15,16,17] rfl (by decide)
 simp only[Zbo,Zam,Zbd,erS,erZ,List.cons_append,List.nil_append,List.drop_succ_cons,List.drop_zero,List.drop_nil,List.append_nil]at ho6
 have H5:=Hd (Zk9 ho6)
 clear H4 h5
 go_wp2_with fail
 refine Mo H5 ?_
 rintro e w6 ⟨rfl,h6⟩
 have ho7:=Sep.ordN h6 18 [0,1,5,2,3,4,6,7,8,9,10,11,12,13,14,15,16,17] rfl (by decide)
 simp only[Zbo,Zam,Zbd,erS,erZ,List.cons_append,List.nil_append,List.drop_succ_cons,List.drop_zero,List.drop_nil,List.append_nil]at ho7
 have H6:=Hd (fd_ans (ib:=2) rfl ho7)
 clear H5 h6
 go_wp2_with fail
 refine Mo H6 ?_
 rintro e w7 ⟨rfl,A7,c7,h7⟩
 have ho8:=Sep.ordN h7 18 [3,4,0,1,2,5,6,7,8,9,10,11,12,13,14,15,16,17] rfl (by decide)
 simp only[Zbo,Zam,Zbd,erS,erZ,List.cons_append,List.nil_append,List.drop_succ_cons,List.drop_zero,List.drop_nil,List.append_nil]at ho8
 have H7:=Hd (bk_ans (ib:=13) rfl ho8)
 clear H6 h7
 go_wp2_with fail
 refine Mo H7 ?_
 rintro e w8 ⟨rfl,A8,c8,h8⟩
 have H8:=Hd (Zlm h8)
 clear H7 h8
 go_wp2_with fail
 rw[rounds_succ]
 go_wp2_with fail
 refine Mo H8 ?_
 rintro e w9 ⟨rfl,h9⟩
 have ho9:=Sep.ordN h9 18 [2,3,0,1,4,5,6,7,8,9,10,11,12,13,14,15,16,17] rfl (by decide)
 simp only[Zbo,Zam,Zbd,erS,erZ,List.cons_append,List.nil_append,List.drop_succ_cons,List.drop_zero,List.drop_nil,List.append_nil]at ho9
 have H9:=Hd (Zk9 ho9)
 clear H8 h9
 go_wp2_with fail
 refine Mo H9 ?_
 rintro e w10 ⟨rfl,h10⟩
 have ho10:=Sep.ordN h10 18 [0,1,2,3,4,6,7,8,9,10,11,12,13,14] rfl (by decide)
 simp only[Zbo,Zam,Zbd,erS,erZ,List.cons_append,List.nil_append,List.drop_succ_cons,List.drop_zero,List.drop_nil,List.append_nil]at ho10
 have ho11:=Sep.ordN ho10 14 [2,3,0,1,5,6,7,8,9,10,11,12,13,4] rfl (by decide)
 simp only[Zbo,Zam,Zbd,erS,erZ,List.cons_append,List.nil_append,List.drop_succ_cons,List.drop_zero,List.drop_nil,List.append_nil]at ho11
 have H10:=Hd ho11
 clear H9 h10
 go_wp2
 go_ret
 exact⟨rfl,A8,c8,A7,c7,X,Y,FA,fc,D,dc,fa,fc',ba,bc',ad,jc,H10.out⟩
theorem own_ordG {w:World}{L:List Zae}{i oc:Nat}{OA:Option Addr}(h:Sep w L)(hi:L[i]? =some (Zad 3 1 (.slice OA 0 oc) 0 [])):(OA=none/\oc=0)∨∃g,OA=some ⟨g,0,none⟩:=by
 obtain⟨_,⟨h2,_⟩ | ⟨g,_,_,h1,_⟩⟩:=h.row hi
 ·cases h2;exact .inl ⟨rfl,rfl⟩
 ·cases h1;exact .inr ⟨g,rfl⟩
theorem cr_three {w:World}{F:List Zae}{kb C M oc c k0 gg hh X mc G K Li St CM JM C2 S M2 g0 gc:Nat}{A A0 A1 OA GA:Option Addr}{Rt log evs q:Value}{iw last nw:Int}
  (h0:Sep w (Zaa kb 126 (Zau C M (.slice OA 0 oc) (.slice A0 0 k0) (.slice none 0 0) 1999 1 (.slice none 0 0) 0 false)::Zad 5 1 (.slice A0 0 k0) 0 []::Zak M (Zaw (.pointer (some ⟨X,0,none⟩))) mc::Zaa X 130 (Zay nw q false (.slice none 0 0) false (.slice none 0 0) false)::Zaa C 93 (Zai gg hh)::Zbw hh none 0 [] 4096::Zaa G 120 (Za7 K Rt Li St CM JM last log)::Zaa K 200 (Zaf C2 S M2 (.slice GA 0 gc) (.slice A1 0 g0) (.slice A 26 c) iw 1996 0 true (.pointer none) evs)::Zad 5 1 (.slice A1 0 g0) 0 []::Zad 5 1 (.slice A 26 c) 26 (bs rsB)::Zad 3 1 (.slice GA 0 gc) 0 []::F)):
  CA 22 #[.pointer (some ⟨kb,0,none⟩),.pointer (some ⟨G,0,none⟩),.int .i64 3] w fun e w'=>e=.returned (.bool true)/\∃A' c' D dc DB db P',
   Sep w' (Zaa kb 126 (Zau C M (.slice OA 0 oc) (.slice A' 0 c') (.slice none 0 0) 1999 1 P' 0 false)::Zak M (Zaw (.pointer (some ⟨X,0,none⟩))) mc::Zaa X 130 (Zay nw q false (.slice D 2 dc) true (.slice DB 4 db) true)::Zad 5 1 (.slice DB 4 db) 4 (bs Zb6)::Zad 41 2 (.slice D 2 dc) 2 (fvs Zn2)::F):=by
 obtain⟨b,rfl,-⟩:=h0.rowAt (i:=9) rfl (by decide)
 have ho:=own_ordG h0 (i:=10) rfl
 have HO:=Hd ho
 clear ho
 have H0:=Hd (Zlm h0)
 clear h0
 go_enter func22,ntmps22
 go_wp2_with fail
 refine wp_loop_rounds 3 ?_
 rw[rounds_succ]
 go_wp2_with fail
 refine Mo H0 ?_
 rintro e w1 ⟨rfl,h1⟩
 have ho1:=Sep.ordN h1 11 [6,7,0,1,2,3,4,5,8,9,10] rfl (by decide)
 simp only[Zbo,Zam,Zbd,erS,erZ,List.cons_append,List.nil_append,List.drop_succ_cons,List.drop_zero,List.drop_nil,List.append_nil]at ho1
 have H1:=Hd (Zk9 ho1)
 clear H0 h1
 go_wp2_with fail
 refine Mo H1 ?_
 rintro e w2 ⟨rfl,h2⟩
 have ho2:=Sep.ordN h2 11 [2,3,4,5,6,7,0,1,8,9,10] rfl (by decide)
 simp only[Zbo,Zam,Zbd,erS,erZ,List.cons_append,List.nil_append,List.drop_succ_cons,List.drop_zero,List.drop_nil,List.append_nil]at ho2
 have H2:=Hd (bk_rep (ib:=3) rfl ho2)
 clear H1 h2
 go_wp2_with fail
 refine(fd_nil _ _ _ _).mono ?_
 rintro e w2' ⟨rfl,rfl⟩
 go_wp2_with fail
 refine Mo H2 ?_
 rintro e w3 ⟨rfl,A3,c3,D,dc,DB,db,QA,qc,P3,h3⟩
 obtain⟨q3,rfl,-⟩:=h3.rowAt (i:=2) rfl (by decide)
 have H3:=Hd (Zlm h3)
 clear H2 h3
 go_wp2_with fail
 rw[rounds_succ]
 go_wp2_with fail
 refine Mo H3 ?_
 rintro e w4 ⟨rfl,h4⟩
 have ho3:=Sep.ordN h4 12 [7,8,0,1,2,3,4,5,6,9,10,11] rfl (by decide)
 simp only[Zbo,Zam,Zbd,erS,erZ,List.cons_append,List.nil_append,List.drop_succ_cons,List.drop_zero,List.drop_nil,List.append_nil]at ho3
 have H4:=Hd (Zk9 ho3)
 clear H3 h4
 go_wp2_with fail
 refine Mo H4 ?_
 rintro e w5 ⟨rfl,h5⟩
 have ho4:=Sep.ordN h5 12 [0,1,9,2,3,4,5,6,7,8,10,11] rfl (by decide)
 simp only[Zbo,Zam,Zbd,erS,erZ,List.cons_append,List.nil_append,List.drop_succ_cons,List.drop_zero,List.drop_nil,List.append_nil]at ho4
 have H5:=Hd (fd_wide (HO.out.imp id fun⟨g,e⟩=>⟨g,8,e,rfl⟩) (ib:=2) rfl ho4)
 clear H4 h5
 go_wp2_with fail
 refine Mo H5 ?_
 rintro e w6 ⟨rfl,A6,c6,h6⟩
 have H6:=Hd h6
 clear H5 h6
 go_wp2_with fail
 refine(bk_nil _ _ _ _).mono ?_
 rintro e w6' ⟨rfl,rfl⟩
 have ho5:=Sep.ordN H6.out 12 [3,0,1,2,4,5,6,7,8,9,10,11] rfl (by decide)
 simp only[Zbo,Zam,Zbd,erS,erZ,List.cons_append,List.nil_append,List.drop_succ_cons,List.drop_zero,List.drop_nil,List.append_nil]at ho5
 have H7:=Hd (Zlm ho5)
 clear H6
 go_wp2_with fail
 rw[rounds_succ]
 go_wp2_with fail
 refine Mo H7 ?_
 rintro e w8 ⟨rfl,h8⟩
 have ho6:=Sep.ordN h8 12 [1,2,0,3,4,5,6,7,8,9,10,11] rfl (by decide)
 simp only[Zbo,Zam,Zbd,erS,erZ,List.cons_append,List.nil_append,List.drop_succ_cons,List.drop_zero,List.drop_nil,List.append_nil]at ho6
 have H8:=Hd (Zk9 ho6)
 clear H7 h8
 go_wp2_with fail
 refine Mo H8 ?_
 rintro e w9 ⟨rfl,h9⟩
 have ho7:=Sep.ordN h9 12 [2,6,7,8,9] rfl (by decide)
 simp only[Zbo,Zam,Zbd,erS,erZ,List.cons_append,List.nil_append,List.drop_succ_cons,List.drop_zero,List.drop_nil,List.append_nil]at ho7
 have ho8:=Sep.ordN ho7 5 [0,1,2,3,4] rfl (by decide)
 simp only[Zbo,Zam,Zbd,erS,erZ,List.cons_append,List.nil_append,List.drop_succ_cons,List.drop_zero,List.drop_nil,List.append_nil]at ho8
 have H9:=Hd ho8
 clear H8 h9
 go_wp2
 go_ret
 exact⟨rfl,A3,c3,D,dc,DB,db,P3,H9.out⟩
theorem ec1 :ByteArray.mk #[47,112]++ByteArray.mk #[33]=⟨#[47,112,33]⟩:=by kernel_rfl
theorem ec_ok {w w0:World}{F:List Zae}{io ia c:Nat}{A:Option Addr}(hP:Pow w0)(hD:DeB w0)(hio:F[io]? =some (Zel w0))(hia:F[ia]? =some (Zad 5 1 (.slice A 39 c) 39 (bs Zf1)))(h:Sep w F):
  CA 23 #[.slice A 39 c] w fun e w'=>∃b o c',e=.returned (.tuple #[.slice (some ⟨b,o,none⟩) 45 c',.bool true])/\45<=c'/\Sep w' (Zir ⟨b,o,none⟩ Zku::F):=by
 have hc:=h.cap hia
 have HRA:=Hd (Zvy [80,79,83,84] [47,112] [104] [] [120] Zdn.1 A 39 c Zdn.2.symm (show Zf1.length<=c by rw[Zdn.2];exact hc) w (show Zab w w.heap.size 1 A Zf1.length (bs Zf1)by rw[Zdn.2];exact Zag h hia))
 have H:=Hd h
 clear h
 go_enter func23,ntmps23
 go_wp2_with fail
 refine Mo HRA ?_
 rintro e w1 ⟨v,rfl,FA,fc,BA,bc,rfl,-,hob,hb⟩
 have hob:w1.ownsRow w.heap.size 5 1 (.slice BA 1 bc) 1 (bs [120]):=hob
 have h2:=(H.out.newRow hb hob).newBlk 25 (Zcf [80,79,83,84] [47,112] [104] FA 0 fc BA 1 bc)
 have hl0:([]:List Fld).length=0:=rfl
 have hl1:([120]:List UInt8).length=1:=rfl
 rw[hl0,hl1]
 obtain⟨W2,hW2⟩:=exl (w1.alloc (.cells (Zcf [80,79,83,84] [47,112] [104] FA 0 fc BA 1 bc) 25))
 rw[hW2]at h2
 have kX:=h2.at_ (i:=0) rfl
 have e1:=ec1
 obtain⟨cc,W5,hcv,hb5,v5,W6,hap,hfin⟩:=Zdj 23 W2 [47,112,33] BA bc [120] (Zag h2 (i:=1) rfl) (by decide)
 obtain⟨ad,cq,rfl,hcq,hs⟩:=h2.newByt hfin
 have hs:Sep W6 (Zir ad Zb6::_):=hs
 obtain⟨b,o,e2,-,-⟩:=(hs.byt (i:=0) rfl).form (by decide)
 cases e2
 have hap:(Builtin.append_ #[23,23] 23 #[.slice (some ⟨W2.heap.size,0,none⟩) 3 cc,.slice BA 1 bc]).run prog W5=.ok (.slice (some ⟨b,o,none⟩) 4 cq) W6:=hap
 have hcv:(convert 9 23 (.string ⟨#[47,112,33]⟩)).run prog W2=.ok (.slice (some ⟨W2.heap.size,0,none⟩) 3 cc) W5:=hcv
 have hk5:∀a:Addr,a.block < W2.heap.size->W5.cell? a=W2.cell? a:=fun a ha=>hb5.cell ha
 have k4:W5.cell? ⟨w1.heap.size,4,none⟩=some (.slice BA 1 bc):=(hk5 ⟨w1.heap.size,4,none⟩ kX.2.2).trans (kX.1 4)
 have hcq:4<=cq:=hcq
 have HS:=Hd hs
 have HAP:=Hd hap
 unfold Zcf at kX hW2⊢
 clear hfin hb5 hap hs h2 hob hb HRA H hk5
 go_wp2_with (at_builtin;refine wpList_append_run rfl _ _ _ rfl _ _ rfl rfl _ _ HAP.out ?_)
 have HT:=Hd (tl_tell (io:=io+3) hP hD hio (fun W hW=>hW.byt (i:=0) rfl) hcq HS.out)
 clear kX k4 HAP HS hcv
 refine Mo HT ?_
 rintro e w7 ⟨b7,o7,c7,rfl,h45,h7⟩
 have H7:=Hd h7
 clear HT h7
 go_wp2
 have h8:=Hd H7.out.drew
 go_region
 all_goals
  go_wp2
  go_ret2
  exact⟨b7,o7,c7,rfl,h45,((h8.out.drop_ 1).drop_ 1).drop_ 1⟩
theorem Ztj (w:World)(e:TypeId)(s:ByteArray):Below w.heap.size w (Lib.bytesWorld w e s):=by
 refine⟨?_,?_,?_,by rw[Lib.bytesWorld_size];omega,fun k hk=>Lib.bytesWorld_at_old _ _ _ k hk⟩
 all_goals simp[Lib.bytesWorld,World.freeze,World.alloc,World.drew,-World.alloc_eq,-World.drew_eq]
theorem atoi_200 (w:World):CA 131 #[.string ⟨#[50,48,48]⟩] w fun e w'=>e=.returned (.tuple #[.int .i64 200,.nilIface])/\Below w.heap.size w w':=by
 refine(Tryz.strconv_Atoi ⟨#[50,48,48]⟩ 200 (by decide) (by kernel_rfl) w).mono ?_
 rintro e w' ⟨h,t,rfl⟩
 exact⟨h,Ztj _ _ _⟩
def Zp6 :List Value:=[.string ⟨#[108,101,110,103,116,104]⟩,.string ⟨#[52]⟩]
theorem Zib {w:World}{L:List Zae}{i c:Nat}{A:Option Addr}(h:Sep w L)(hi:L[i]? =some (Zad 41 2 (.slice A 2 c) 2 (fvs Zn2))):
  ∃g,A=some ⟨g,0,none⟩/\g < w.heap.size/\2<=c/\w.cell? ⟨g,0,none⟩=some (.string ⟨#[58,99,111,100,101]⟩)/\w.cell? ⟨g,1,none⟩=some (.string ⟨#[50,48,48]⟩)/\w.cell? ⟨g,2,none⟩=some (.string ⟨#[108,101,110,103,116,104]⟩)/\w.cell? ⟨g,3,none⟩=some (.string ⟨#[52]⟩):=by
 obtain⟨h1,h2⟩:=h.row hi
 rcases h2 with⟨_,h3⟩ | ⟨g,cap,cur,hv,_,hg,hc,_,hcs,ht⟩
 ·cases h3
 ·cases hv
  have hk:∀j u,(fvs Zn2)[j]? =some u->w.cell? ⟨g,j,none⟩=some u:=by
   intro j u hu
   rw[Blk.cell (t:=41) (cs:=cur) hg j]
   rw[<-ht]at hu
   have hj:j < 2*2:=by
    have:=(List.getElem?_eq_some_iff.1 hu).1
    simp only[List.length_take]at this
    omega
   rw[List.getElem?_take,if_pos hj]at hu
   simpa using hu
  exact⟨g,rfl,Blk.lt (t:=41) (cs:=cur) hg,hc,hk 0 _ rfl,hk 1 _ rfl,hk 2 _ rfl,hk 3 _ rfl⟩
theorem rp_fn1 (w:World):CA 130 #[.agg #[.string ⟨#[108,101,110,103,116,104]⟩,.string ⟨#[52]⟩]] w fun e w'=>e=.returned (.bool false)/\Below w.heap.size w w':=by
 have HB:=Hd ((Below.refl w.heap.size w).alloc (Nat.le_refl _) (.cells #[.string ⟨#[108,101,110,103,116,104]⟩,.string ⟨#[52]⟩] 41))
 have HP:=Hd (Tryz.strings_HasPrefix ⟨#[108,101,110,103,116,104]⟩ ⟨#[58]⟩ (w.alloc (.cells #[.string ⟨#[108,101,110,103,116,104]⟩,.string ⟨#[52]⟩] 41)))
 go_enter func130,ntmps130
 go_wp2_with fail
 refine Mo HP ?_
 rintro e w' ⟨rfl,rfl⟩
 rw[show Lib.hasPrefix [108,101,110,103,116,104] [58]=false from by decide]
 go_wp2
 go_ret
 exact⟨rfl,HB.out⟩
theorem rp_fn2 (w:World):CA 133 #[.agg #[.string ⟨#[108,101,110,103,116,104]⟩,.string ⟨#[52]⟩]] w fun e w'=>e=.returned (.bool true)/\Below w.heap.size w w':=by
 have HB:=Hd ((Below.refl w.heap.size w).alloc (Nat.le_refl _) (.cells #[.string ⟨#[108,101,110,103,116,104]⟩,.string ⟨#[52]⟩] 41))
 go_enter func133,ntmps133
 go_wp2
 go_ret
 exact⟨rfl,HB.out⟩
theorem rp_ix1 (g o c:Nat)(hc:1<=c)(w:World)(h0:w.cell? ⟨g,o,none⟩=some (.string ⟨#[108,101,110,103,116,104]⟩))(h1:w.cell? ⟨g,o+1,none⟩=some (.string ⟨#[52]⟩)):
  CA 175 #[.slice (some ⟨g,o,none⟩) 1 c,.func (.func 130) #[] #[]] w fun e w'=>e=.returned (.int .i64 (-1))/\Below w.heap.size w w':=by
 go_enter func175,ntmps175
 go_wp2
 refine wp_loop_rounds 2 ?_
 rw[rounds_succ]
 go_wp2_with fail
 refine(rp_fn1 w).mono ?_
 rintro e w1 ⟨rfl,hb⟩
 have HB:=Hd hb
 clear hb
 go_wp2
 rw[rounds_succ]
 go_wp2
 go_ret
 exact⟨rfl,HB.out⟩
theorem rp_has (g o c:Nat)(hc:1<=c)(w:World)(h0:w.cell? ⟨g,o,none⟩=some (.string ⟨#[108,101,110,103,116,104]⟩))(h1:w.cell? ⟨g,o+1,none⟩=some (.string ⟨#[52]⟩)):
  CA 129 #[.slice (some ⟨g,o,none⟩) 1 c,.func (.func 130) #[] #[]] w fun e w'=>e=.returned (.bool false)/\Below w.heap.size w w':=by
 have HI:=Hd (rp_ix1 g o c hc w h0 h1)
 clear h0 h1
 go_enter func129,ntmps129
 go_wp2_with fail
 refine Mo HI ?_
 rintro e w1 ⟨rfl,hb⟩
 have HB:=Hd hb
 clear hb
 go_wp2
 go_ret
 exact⟨rfl,HB.out⟩
theorem rp_ix2 (g c:Nat)(hc:1<=c)(w:World)(h0:w.cell? ⟨g,0,none⟩=some (.string ⟨#[108,101,110,103,116,104]⟩))(h1:w.cell? ⟨g,1,none⟩=some (.string ⟨#[52]⟩)):
  CA 175 #[.slice (some ⟨g,0,none⟩) 1 c,.func (.func 133) #[] #[]] w fun e w'=>e=.returned (.int .i64 0)/\Below w.heap.size w w':=by
 go_enter func175,ntmps175
 go_wp2
 refine wp_loop_rounds 2 ?_
 rw[rounds_succ]
 go_wp2_with fail
 refine(rp_fn2 w).mono ?_
 rintro e w1 ⟨rfl,hb⟩
 have HB:=Hd hb
 clear hb
 go_wp2
 go_ret
 exact⟨rfl,HB.out⟩
theorem Znu (w:World)(ty:TypeId)(g c:Nat)(hc:∀j,j < 2->(w.cell? ⟨g,0+j,none⟩).isSome=true)(hf:∀j,j < 2->w.frozen? ⟨g,0+j,none⟩=false):
  (Builtin.clear_ #[22] ty #[.slice (some ⟨g,0,none⟩) 1 c]).run prog w=.ok (.tuple #[]) ((w.setCell ⟨g,0,none⟩ (.string ⟨#[]⟩)).setCell ⟨g,1,none⟩ (.string ⟨#[]⟩)):=by
 have hzc:(Builtin.zeroCells (Value.agg #[.string ⟨#[]⟩,.string ⟨#[]⟩]).cells 1).toList=[.string ⟨#[]⟩,.string ⟨#[]⟩]:=by kernel_rfl
 have hst:=run_storeCells_cells (P:=prog) g 0 [.string ⟨#[]⟩,.string ⟨#[]⟩] 0 w (by simpa using hc) (by simpa using hf) (by intro v hv;simp at hv;subst hv;rfl)
 simp only[Nat.add_zero]at hst
 simp[Builtin.clear_,run_underlying underlying22,hzc,hst]
 rfl
theorem fld_gone {w:World}{F:List Zae}{c g:Nat}{u v:Value}(h:Sep w (Zad 41 2 (.slice (some ⟨g,0,none⟩) 1 c) 1 [u,v]::F))(a b:Value):Sep ((w.setCell ⟨g,0,none⟩ a).setCell ⟨g,1,none⟩ b) F:=by
 refine h.tail.kept (S:=fun k=>k=g) (((Zax.refl (fun k=>k=g) w).setCell (p:=⟨g,0,none⟩) (.inl rfl) a).setCell (p:=⟨g,1,none⟩) (.inl rfl) b) ?_
 intro x hx k hk hkg
 have hkg:k=g:=hkg
 subst hkg
 exact(List.pairwise_cons.1 h.apart).1 x hx k rfl hk
theorem Zlc {w:World}{L:List Zae}{i c:Nat}{A:Option Addr}(h:Sep w L)(hi:L[i]? =some (Zad 41 2 (.slice A 1 c) 1 Zp6)):
  ∃g,A=some ⟨g,0,none⟩/\g < w.heap.size/\1<=c/\w.cell? ⟨g,0,none⟩=some (.string ⟨#[108,101,110,103,116,104]⟩)/\w.cell? ⟨g,1,none⟩=some (.string ⟨#[52]⟩)/\∀j,w.frozen? ⟨g,j,none⟩=false:=by
 obtain⟨h1,h2⟩:=h.row hi
 rcases h2 with⟨_,h3⟩ | ⟨g,cap,cur,hv,_,hg,hc,_,hcs,ht⟩
 ·cases h3
 ·cases hv
  have hk:∀j u,Zp6[j]? =some u->w.cell? ⟨g,j,none⟩=some u:=by
   intro j u hu
   rw[Blk.cell (t:=41) (cs:=cur) hg j]
   rw[<-ht]at hu
   have hj:j < 1*2:=by
    have:=(List.getElem?_eq_some_iff.1 hu).1
    simp only[List.length_take]at this
    omega
   rw[List.getElem?_take,if_pos hj]at hu
   simpa using hu
  exact⟨g,rfl,Blk.lt (t:=41) (cs:=cur) hg,hc,hk 0 _ rfl,hk 1 _ rfl,fun j=>Blk.frozen (t:=41) (cs:=cur) hg j⟩
theorem rp_del {w:World}{F:List Zae}{c:Nat}{A:Option Addr}(h:Sep w (Zad 41 2 (.slice A 1 c) 1 Zp6::F)):
  CA 132 #[.slice A 1 c,.func (.func 133) #[] #[]] w fun e w'=>∃A' c',e=.returned (.slice A' 0 c')/\Sep w' F:=by
 obtain⟨g,rfl,-,hc,h0,h1,-⟩:=Zlc h (i:=0) rfl
 have HI:=Hd (rp_ix2 g c hc w h0 h1)
 have H:=Hd h
 clear h h0 h1
 go_enter func132,ntmps132
 go_wp2_with fail
 refine Mo HI ?_
 rintro e w1 ⟨rfl,hb⟩
 have h2:=H.out.below hb
 obtain⟨g',e',hlt,hc',k0,k1,kf⟩:=Zlc h2 (i:=0) rfl
 cases e'
 have HE:=Hd (fld_gone h2 (.string ⟨#[]⟩) (.string ⟨#[]⟩))
 have qc:∀ty,(Builtin.clear_ #[22] ty #[.slice (some ⟨g,0,none⟩) 1 c]).run prog w1=.ok (.tuple #[]) ((w1.setCell ⟨g,0,none⟩ (.string ⟨#[]⟩)).setCell ⟨g,1,none⟩ (.string ⟨#[]⟩)):=fun ty=>
  Znu w1 ty g c (by intro j hj;rcases(by omega:j=0∨j=1)with rfl | rfl <;> simp[k0,k1]) (by intro j hj;exact kf _)
 clear h2 H HI hb kf
 go_wp2
 refine wp_loop_rounds 1 ?_
 rw[rounds_succ]
 go_wp2
 go_ret
 exact⟨_,_,rfl,HE.out⟩
theorem rp_clone {w:World}{F:List Zae}(h:Sep w F)(g c:Nat)(hg:g < w.heap.size)(h2:w.cell? ⟨g,2,none⟩=some (.string ⟨#[108,101,110,103,116,104]⟩))(h3:w.cell? ⟨g,3,none⟩=some (.string ⟨#[52]⟩)):
  CA 123 #[.slice (some ⟨g,2,none⟩) 1 c] w fun e w'=>∃A' c',e=.returned (.slice A' 1 c')/\Sep w' (Zad 41 2 (.slice A' 1 c') 1 Zp6::F):=by
 have ho:=Zig w 41 2
 have hb:=(Below.refl w.heap.size w).alloc (Nat.le_refl _) (.cells #[] 41)
 have hr:Zab w w.heap.size 2 (some ⟨g,2,none⟩) 1 Zp6:=by
  refine⟨rfl,fun _=>⟨_,rfl,hg,fun j u hj=> ?_⟩⟩
  match j,hj with
  | 0,hj=>cases hj;exact h2
  | 1,hj=>cases hj;exact h3
  | j+2,hj=>simp[Zp6]at hj
 have HO:=Hd ho
 have HB:=Hd hb
 have HR:=Hd ((hr.below hb).more hb.size)
 have H:=Hd h
 clear ho hb hr h h2 h3
 have q:=Lib.run_eql_slice_nil (P:=prog) w 22 41 (some ⟨g,2,none⟩) 1 c 0 0 underlying22
 obtain⟨i0,hi0,hz0,hz1,hz2⟩:=info_parts Zdm
 go_enter func123,ntmps123
 go_wp2_with (at_builtin;refine Zah _ rfl _ _ 22 rfl w.heap.size 41 i0 (.agg #[.string ⟨#[]⟩,.string ⟨#[]⟩]) 2 32 underlying22 hi0 hz0 hz1 hz2 rfl (by decide) _ 0 [] rfl HO.out _ (some ⟨g,2,none⟩) 1 c Zp6 rfl HR.out (by intro u hu;simp[Zp6]at hu;rcases hu with rfl | rfl <;> rfl) (by unfold maxLen;omega) (by omega) (by simp) ?_;intro v' w' hown' hg _;have hb2:=Zbl HB.out HO.out hg (by simp))
 go_ret
 obtain⟨A',c',rfl⟩:=Zas hown'
 exact⟨A',c',rfl,H.out.newRow hb2 hown'⟩
end
end Go.Proofs.YtbgnggkgmeagkaaGreatDoor
