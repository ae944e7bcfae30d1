/-
  A part of the proof of TopAlike: each theorem states its own conditions.
-/
import Derived.Test.YtbgnggkgmeagkaaGreatDoorMTopAlike30
set_option linter.unusedSimpArgs false
set_option linter.unusedVariables false
set_option maxRecDepth 100000
set_option maxHeartbeats 16000000
namespace Go.Proofs.YtbgnggkgmeagkaaGreatDoor
open Go.Proofs.Tryz
section
open Go.RowKit Go.Shelf
section
variable {rs:Nat->Rq} {k n:Nat} {ps:List Stg} {s s':Stg} {c c':GC} {v v':GV}
theorem Zgc {α:Type}{l:List α}{x y:α}{t:Nat}(h:(l++[x])[t]? =some y):(t < l.length/\l[t]? =some y)∨(t=l.length/\x=y):=by
 rcases Nat.lt_or_ge t l.length with h1 | h1
 ·rw[List.getElem?_append_left h1]at h
  exact .inl ⟨h1,h⟩
 ·rw[List.getElem?_append_right h1]at h
  have h2:=(List.getElem?_eq_some_iff.1 h).1
  simp at h2
  have h3:t=l.length:=by omega
  subst h3
  simp at h
  exact .inr ⟨rfl,h⟩
theorem Zh2.glNone (hp:Zh2 rs k ps c v):Za8 v.gl (sid (k+ps.length))=none:=by
 refine hp.kg.none_ ?_
 split
 ·omega
 ·rename_i h
  cases ps with
  | nil=>exact absurd rfl h
  | cons s ps=>rw[List.length_cons];omega
theorem Zh2.head {X:Nat}(hp:Zh2 rs k ps c v)(hw:∀s∈ps,s.whole=true)(hn:k+ps.length=n)(hX:s.X=X)(hnew:s.new=true)(hcall:s.call=none)(hun0:s.un (rs n)=0)(hbo:s.body=true↔(rs n).b≠[])(hcl:c'.cl=c.cl++[(sid n,ptr X)])(hla:c'.last=sid n)(hiw:c'.iw=c.iw)(hun:c'.un=c.un)(hsl:v'.sl=v.sl++[(sid n,.int .i64 s.st)])(hgl:v'.gl=v.gl):Zh2 rs k (ps++[s]) c' v':=by
 have hln:k+(ps++[s]).length=n+1:=by rw[List.length_append,List.length_singleton];omega
 have hpu:pdU rs k (ps++[s])=pdU rs k ps:=by rw[Zid,hn,hun0];rfl
 have q1:=hp.kc
 have q2:=hp.ks
 rw[hn]at q1 q2
 have hgn:=hp.glNone
 rw[hn]at hgn
 refine⟨by rw[hcl,hln];exact q1.snoc _,by rw[hsl,hln];exact q2.snoc _,?_,?_,by rw[hla,hln];rfl,?_,?_,?_,?_⟩
 ·have h1:(ps++[s]).all Stg.new=ps.all Stg.new:=by rw[List.all_append];simp[hnew]
  rw[h1,hgl]
  exact hp.kg
 ·intro p hpm
  rw[hsl]at hpm
  rcases List.mem_append.1 hpm with h1 | h1
  ·exact hp.int p h1
  ·rw[List.mem_singleton.1 h1]
   exact⟨_,rfl⟩
 ·intro t s2 ht
  rw[hcl,hsl,hgl]
  rcases Zgc ht with⟨h1,h2⟩ | ⟨h1,h2⟩
  ·obtain⟨a1,a2,a3,a4⟩:=hp.st t s2 h2
   have hne:sid (k+t)≠sid n:=fun e=>by have:=Zht e;omega
   exact⟨by rw[Zcu _ hne];exact a1,by rw[Zcu _ hne];exact a2,a3,a4⟩
  ·subst h1
   subst h2
   rw[hn]
   exact⟨by rw[hX];exact Zc7 (q1.none_ (Nat.le_refl _)) _,Zc7 (q2.none_ (Nat.le_refl _)) _,by rw[hcall];exact hgn,hbo⟩
 ·obtain⟨hb1,e2,e3⟩:=hp.iw
  exact⟨hb1,hiw.trans e2,by rw[hpu];exact e3⟩
 ·rw[hun,hpu]
  exact hp.un
 ·intro t s2 ht
  rcases Zgc ht with⟨h1,h2⟩ | ⟨h1,h2⟩
  ·obtain⟨b1,b2⟩:=hp.ord t s2 h2
   refine⟨b1,fun s3 h3=> ?_⟩
   rcases Zgc h3 with⟨h4,h5⟩ | ⟨h4,h5⟩
   ·exact b2 s3 h5
   ·omega
  ·subst h2
   refine⟨hnew,fun s3 h3=> ?_⟩
   rcases Zgc h3 with⟨h4,h5⟩ | ⟨h4,h5⟩
   ·exact hw s3 (List.mem_of_getElem? h5)
   ·omega
theorem Zh2.data (hp:Zh2 rs k (ps++[s]) c v)(hn:k+ps.length=n)(hX:s'.X=s.X)(hnew:s'.new=s.new)(hcall:s'.call=s.call)(hst:s'.st=2)(hu0:s.un (rs n)=0)(hun1:s'.un (rs n)=(rs n).b.length)(hbo:s'.body=s.body)(hcl:c'.cl=c.cl)(hla:c'.last=c.last)(hiw:∀hb,c.iw=((2000-hb:Nat):Int)->hb+(rs n).b.length<=2000->c'.iw=((2000-hb-(rs n).b.length:Nat):Int))(hle:Zha rs k+pdU rs k (ps++[s])+(rs n).b.length<=2000)(hun:∀u:Nat,c.un=(u:Int)->c'.un=((u+(rs n).b.length:Nat):Int))(hsl:v'.sl=Ze3 v.sl (sid n) (.int .i64 2))(hgl:v'.gl=v.gl):Zh2 rs k (ps++[s']) c' v':=by
 have hln:k+(ps++[s']).length=k+(ps++[s]).length:=by simp
 have hpu:pdU rs k (ps++[s])=pdU rs k ps:=by rw[Zid,hn,hu0];rfl
 have hpu2:pdU rs k (ps++[s'])=pdU rs k ps+(rs n).b.length:=by rw[Zid,hn,hun1]
 refine⟨by rw[hcl,hln];exact hp.kc,by rw[hsl,hln];exact hp.ks.set _ _,?_,?_,by rw[hla,hln];exact hp.last,?_,?_,?_,?_⟩
 ·have h1:(ps++[s']).all Stg.new=(ps++[s]).all Stg.new:=by rw[List.all_append,List.all_append];simp[hnew]
  rw[h1,hgl]
  exact hp.kg
 ·intro p hpm
  rw[hsl]at hpm
  unfold Ze3 at hpm
  obtain⟨q,hq,rfl⟩:=List.mem_map.1 hpm
  split
  ·exact⟨2,rfl⟩
  ·exact hp.int q hq
 ·intro t s2 ht
  rw[hcl,hsl,hgl]
  rcases Zgc ht with⟨h1,h2⟩ | ⟨h1,h2⟩
  ·obtain⟨a1,a2,a3,a4⟩:=hp.st t s2 (by rw[List.getElem?_append_left h1];exact h2)
   have hne:sid (k+t)≠sid n:=fun e=>by have:=Zht e;omega
   exact⟨a1,by rw[Zc8,if_neg hne];exact a2,a3,a4⟩
  ·subst h1
   subst h2
   obtain⟨a1,a2,a3,a4⟩:=hp.st ps.length s (by simp)
   rw[hn]at a1 a2 a3 a4⊢
   exact⟨by rw[hX];exact a1,by rw[hst];exact Zhq a2,by rw[hcall];exact a3,by rw[hbo];exact a4⟩
 ·obtain⟨hb1,e2,e3⟩:=hp.iw
  refine⟨hb1+(rs n).b.length,?_,by rw[hpu2,e3,hpu];omega⟩
  rw[hiw hb1 e2 (by omega)]
  congr 1
  omega
 ·rw[hpu2]
  refine hun _ ?_
  rw[hp.un,hpu]
 ·intro t s2 ht
  rcases Zgc ht with⟨h1,h2⟩ | ⟨h1,h2⟩
  ·obtain⟨b1,b2⟩:=hp.ord t s2 (by rw[List.getElem?_append_left h1];exact h2)
   refine⟨b1,fun s3 h3=> ?_⟩
   rcases Zgc h3 with⟨h4,h5⟩ | ⟨h4,h5⟩
   ·exact b2 s3 (by rw[List.getElem?_append_left h4];exact h5)
   ·omega
  ·subst h2
   obtain⟨b1,b2⟩:=hp.ord t s (by rw[h1];simp)
   refine⟨by rw[hnew];exact b1,fun s3 h3=> ?_⟩
   rcases Zgc h3 with⟨h4,h5⟩ | ⟨h4,h5⟩
   ·exact b2 s3 (by rw[List.getElem?_append_left h4];exact h5)
   ·omega
end
theorem Z05 {w:World}{F:List Zae}{kb C S M MS gg hh bc:Nat}{BA:Option Addr}{ord inn out:Value}{iw ow un:Int}{began:Bool}
  (h:Sep w (Zad 5 1 (.slice BA 8 bc) 8 (bs Zoz)::Zaa kb 200 (Zaf C S M ord inn out iw ow un began (.pointer none) (.slice none 0 0))::Zak M #[] 0::Zaa S 254 (Zbf MS 0)::Zak MS #[] 0::Zaa C 93 (Zai gg hh)::Zbw hh none 0 [] 4096::F)):
  CA 214 #[.pointer (some ⟨kb,0,none⟩),.agg #[.int .i64 1,.int .i64 4,.int .i64 1,.slice BA 8 bc]] w fun e w'=>e=.returned (.tuple #[])/\∃X D dc E ec,Sep w' (Zaa kb 200 (Zaf C S M ord inn out iw ow un began (.pointer none) (.slice E 1 ec))::
   Zad 215 6 (.slice E 1 ec) 1 (evV 1 1 0 (.slice D 3 dc) (.slice none 0 0) false).toList::Zaa X 313 (Zbn 2000 2000 0 (.slice none 0 0) false false)::Zak M (Zaw (.pointer (some ⟨X,0,none⟩))) 1::
   Zaa S 254 (Zbf MS 1)::Zak MS (Zaw (.int .i64 1)) 1::Zad 41 2 (.slice D 3 dc) 3 (fvs Ziu)::Zaa C 93 (Zai gg hh)::F):=by
 have h1:=h.newBlk 134 #[.int .i64 1,.int .i64 4,.int .i64 1,.slice BA 8 bc]
 have kX:=h1.at_ (i:=0) rfl
 have kK:=h1.at_ (i:=2) rfl
 have h2:=h1.newBlk 307 (Zbr 1 0 false (.slice none 0 0))
 simp only[World.size_alloc]at h2
 unfold Zbr at h2
 have kP2:=h2.at_ (i:=0) rfl
 have kX2:=h2.at_ (i:=1) rfl
 have kK2:=h2.at_ (i:=3) rfl
 have n1:kb≠w.heap.size:=h2.ne_ (i:=3) (i':=1) rfl rfl (by decide)
 have n2:=Ne.symm n1
 have n3:kb≠w.heap.size+1:=h2.ne_ (i:=3) (i':=0) rfl rfl (by decide)
 have n4:=Ne.symm n3
 have b41:(bits .and .i64 4 1 !=0)=false:=by decide
 have b44:(bits .and .i64 4 4 !=0)=true:=by decide
 have H2:=Hd h2
 unfold Zaf at kK kK2
 clear h h1 h2
 go_enter func214,ntmps214
 go_wp2_with fail
 obtain⟨w3,hw3⟩:=exl ((((w.alloc (.cells #[.int .i64 1,.int .i64 4,.int .i64 1,.slice BA 8 bc] 134)).alloc (.cells #[.int .i64 1,.int .i64 0,.bool false,.slice none 0 0] 307)).setCell ⟨kb,12,none⟩ (.pointer (some ⟨w.heap.size+1,0,none⟩))).setCell ⟨w.heap.size+1,1,none⟩ (.int .i64 1))
 have h3:=(H2.out.set_ (i:=3) rfl 12 (.pointer (some ⟨w.heap.size+1,0,none⟩))).set_ (i:=0) rfl 1 (.int .i64 1)
 rw[hw3]at h3⊢
 obtain⟨P,hP⟩:=exl (w.heap.size+1)
 rw[hP]at h3⊢
 change Sep w3 (Zaa P _ (Zbr 1 1 false (.slice none 0 0))::_::_::Zaa kb _ (Zaf C S M ord inn out iw ow un began (.pointer (some ⟨P,0,none⟩)) (.slice none 0 0))::_)at h3
 have h4:=h3.nilRow 5 1
 clear kX kK kP2 kX2 kK2 n1 n2 n3 n4 H2 hw3 h3 hP
 have kP:=h4.at_ (i:=1) rfl
 have kX:=h4.at_ (i:=2) rfl
 have HR:=Hd (Zag h4.drew (i:=3) rfl)
 have n1:=h4.ne_ (i:=1) (i':=2) rfl rfl (by decide)
 have n2:=Ne.symm n1
 have H4:=Hd h4.drew
 unfold Zbr at kP
 clear h4
 go_region_law (refine Zcq rfl _ _ 23 5 rfl underlying23 Zbz rfl (by decide) (by decide) _ 0 [] H4.out (i:=0) rfl (by simp[Act.eval,Act.put]) BA 8 bc (bs Zoz) HR.out (Zcj _) (by simp[Act.eval,Act.put]) (by decide) ?_;intro A5 c5 w5 h5 _;have kP5:=h5.at_ (i:=1) rfl;have kX5:=h5.at_ (i:=2) rfl;have H5:=Hd h5;unfold Zbr at kP5;clear h5)
 all_goals
  go_wp2_with fail
  obtain⟨w6,hw6⟩:=exl (w5.setCell ⟨P,3,none⟩ (.slice A5 8 c5))
  have h6:=H5.out.set_ (i:=1) rfl 3 (.slice A5 8 c5)
  rw[hw6]at h6⊢
  change Sep w6 (Zad _ 1 (.slice A5 8 c5) 8 (bs Zoz)::Zaa P _ (Zbr 1 1 false (.slice A5 8 c5))::_)at h6
  have h7:=((((((((h6.drop_ 2).drop_ 2).front 1 rfl).front 5 rfl).front 5 rfl).front 5 rfl).front 5 rfl).front 5 rfl)
  have H7:=Hd ((h7.front 7 rfl).front 7 rfl)
  clear kP kX kP5 kX5 n1 n2 HR H4 H5 hw6 h6 h7
  refine(cn_whole H7.out).mono ?_
  rintro e w8 ⟨rfl,X,D,dc,E,ec,h8⟩
  have H8:=Hd h8
  clear h8
  go_wp2
  refine bodyPost_end (results_none rfl _ _ _) rfl ?_
  exact⟨rfl,X,D,dc,E,ec,H8.out⟩
theorem Zqw {w:World}{F:List Zae}{kb C S M MS gg hh bc:Nat}{BA:Option Addr}{ord inn out:Value}{iw ow un:Int}
  (h:Sep w (Zad 5 1 (.slice BA 8 bc) 8 (bs Zoz)::Zaa kb 200 (Zaf C S M ord inn out iw ow un true (.pointer none) (.slice none 0 0))::Zak M #[] 0::Zaa S 254 (Zbf MS 0)::Zak MS #[] 0::Zaa C 93 (Zai gg hh)::Zbw hh none 0 [] 4096::F)):
  CA 162 #[.pointer (some ⟨kb,0,none⟩),.agg #[.int .i64 1,.int .i64 4,.int .i64 1,.slice BA 8 bc]] w fun e w'=>e=.returned (.tuple #[])/\∃X D dc E ec,Sep w' (Zaa kb 200 (Zaf C S M ord inn out iw ow un true (.pointer none) (.slice E 1 ec))::
   Zad 215 6 (.slice E 1 ec) 1 (evV 1 1 0 (.slice D 3 dc) (.slice none 0 0) false).toList::Zaa X 313 (Zbn 2000 2000 0 (.slice none 0 0) false false)::Zak M (Zaw (.pointer (some ⟨X,0,none⟩))) 1::
   Zaa S 254 (Zbf MS 1)::Zak MS (Zaw (.int .i64 1)) 1::Zad 41 2 (.slice D 3 dc) 3 (fvs Ziu)::Zaa C 93 (Zai gg hh)::F):=by
 have h1:=h.newBlk 134 #[.int .i64 1,.int .i64 4,.int .i64 1,.slice BA 8 bc]
 have kX:=h1.at_ (i:=0) rfl
 have kK:=h1.at_ (i:=2) rfl
 have H1:=Hd h1
 unfold Zaf at kK
 clear h h1
 go_enter func162,ntmps162
 go_wp2
 go_quiet (fail)
 obtain⟨w2,hw2⟩:=exl ((w.alloc (.cells #[.int .i64 1,.int .i64 4,.int .i64 1,.slice BA 8 bc] 134)).drewN nq)
 have h2:=H1.out.drewN nq
 rw[hw2]at h2⊢
 clear kX kK H1 hw2
 have kX:=h2.at_ (i:=0) rfl
 have kK:=h2.at_ (i:=2) rfl
 have H2:=Hd h2
 unfold Zaf at kK
 clear h2
 go_wp2_with fail
 refine(Zot 1 4 BA 8 bc (.inr rfl) w2).mono ?_
 rintro e w3 ⟨rfl,hb3⟩
 have h3:=H2.out.below hb3
 clear kX kK H2 hb3
 have kX:=h3.at_ (i:=0) rfl
 have kK:=h3.at_ (i:=2) rfl
 have n1:=h3.ne_ (i:=2) (i':=0) rfl rfl (by decide)
 have n2:=Ne.symm n1
 have H3:=Hd h3
 unfold Zaf at kK
 clear h3
 go_wp2_with fail
 obtain⟨w4,hw4⟩:=exl (w3.setCell ⟨kb,10,none⟩ (.bool true))
 have h4:=H3.out.set_ (i:=2) rfl 10 (.bool true)
 rw[hw4]at h4⊢
 change Sep w4 (_::_::Zaa kb _ (Zaf C S M ord inn out iw ow un true (.pointer none) (.slice none 0 0))::_)at h4
 clear kX kK n1 n2 hw4
 refine(Z05 h4.tail).mono ?_
 rintro e w8 ⟨rfl,X,D,dc,E,ec,h8⟩
 have H8:=Hd h8
 clear h4 h8 H3
 go_wp2
 refine bodyPost_end (results_none rfl _ _ _) rfl ?_
 exact⟨rfl,X,D,dc,E,ec,H8.out⟩
theorem Zxw {w:World}{F:List Zae}{kb C S M MS gg hh n bc ne ec0 tc:Nat}{BA E0 TA:Option Addr}{ys:List Fld}{blk:List UInt8}{xs:List Value}{cl sl:List (Int×Value)}{ord inn out:Value}{iw ow un last fl id:Int}{began en:Bool}(Q:World->Prop)(hn:n=blk.length)(hm:n<=2000)(hen:(bits .and .i64 fl 1 !=0)=en)(hwh:(bits .and .i64 fl 4 !=0)=true)
  (hW:∀(w6:World) (P c5:Nat) (A5:Option Addr),Sep w6 (Zaa kb 200 (Zaf C S M ord inn out iw ow un began (.pointer (some ⟨P,0,none⟩)) (.slice E0 ne ec0))::Zaa P 307 (Zbr id 1 en (.slice A5 n c5))::Zad 5 1 (.slice A5 n c5) n (bs blk)::Zad 215 6 (.slice E0 ne ec0) ne xs::Zan Zat M cl::Zaa S 254 (Zbf MS last)::Zan Zat MS sl::Zaa C 93 (Zai gg hh)::Zbw hh TA tc ys 4096::F)->CA 273 #[.pointer (some ⟨kb,0,none⟩),.pointer (some ⟨P,0,none⟩)] w6 fun e w'=>e=.returned (.tuple #[])/\Q w')
  (h:Sep w (Zad 5 1 (.slice BA n bc) n (bs blk)::Zaa kb 200 (Zaf C S M ord inn out iw ow un began (.pointer none) (.slice E0 ne ec0))::Zad 215 6 (.slice E0 ne ec0) ne xs::Zan Zat M cl::Zaa S 254 (Zbf MS last)::Zan Zat MS sl::Zaa C 93 (Zai gg hh)::Zbw hh TA tc ys 4096::F)):
  CA 214 #[.pointer (some ⟨kb,0,none⟩),.agg #[.int .i64 1,.int .i64 fl,.int .i64 id,.slice BA n bc]] w fun e w'=>e=.returned (.tuple #[])/\Q w':=by
 have h1:=h.newBlk 134 #[.int .i64 1,.int .i64 fl,.int .i64 id,.slice BA n bc]
 have kX:=h1.at_ (i:=0) rfl
 have kK:=h1.at_ (i:=2) rfl
 have h2:=h1.newBlk 307 (Zbr id 0 en (.slice none 0 0))
 simp only[World.size_alloc]at h2
 unfold Zbr at h2
 have kP2:=h2.at_ (i:=0) rfl
 have kX2:=h2.at_ (i:=1) rfl
 have kK2:=h2.at_ (i:=3) rfl
 have n1:kb≠w.heap.size:=h2.ne_ (i:=3) (i':=1) rfl rfl (by decide)
 have n2:=Ne.symm n1
 have n3:kb≠w.heap.size+1:=h2.ne_ (i:=3) (i':=0) rfl rfl (by decide)
 have n4:=Ne.symm n3
 have H2:=Hd h2
 have HW:=Hd hW
 have HN:=Hd hn
 unfold Zaf at kK kK2
 clear h h1 h2 hW hn
 go_enter func214,ntmps214
 go_wp2_with fail
 obtain⟨w3,hw3⟩:=exl ((((w.alloc (.cells #[.int .i64 1,.int .i64 fl,.int .i64 id,.slice BA n bc] 134)).alloc (.cells #[.int .i64 id,.int .i64 0,.bool en,.slice none 0 0] 307)).setCell ⟨kb,12,none⟩ (.pointer (some ⟨w.heap.size+1,0,none⟩))).setCell ⟨w.heap.size+1,1,none⟩ (.int .i64 1))
 have h3:=(H2.out.set_ (i:=3) rfl 12 (.pointer (some ⟨w.heap.size+1,0,none⟩))).set_ (i:=0) rfl 1 (.int .i64 1)
 rw[hw3]at h3⊢
 obtain⟨P,hP⟩:=exl (w.heap.size+1)
 rw[hP]at h3⊢
 change Sep w3 (Zaa P _ (Zbr id 1 en (.slice none 0 0))::_::_::Zaa kb 200 (Zaf C S M ord inn out iw ow un began (.pointer (some ⟨P,0,none⟩)) (.slice E0 ne ec0))::_)at h3
 have h4:=h3.nilRow 5 1
 clear kX kK kP2 kX2 kK2 n1 n2 n3 n4 H2 hw3 h3 hP
 have kP:=h4.at_ (i:=1) rfl
 have kX:=h4.at_ (i:=2) rfl
 have HR:=Hd (Zag h4.drew (i:=3) rfl)
 have n1:=h4.ne_ (i:=1) (i':=2) rfl rfl (by decide)
 have n2:=Ne.symm n1
 have H4:=Hd h4.drew
 unfold Zbr at kP
 clear h4
 go_region_law (refine Zcq rfl _ _ 23 5 rfl underlying23 Zbz rfl (by decide) (by decide) _ 0 [] H4.out (i:=0) rfl (by simp[Act.eval,Act.put]) BA n bc (bs blk) HR.out (Zcj _) (by simp[Act.eval,Act.put]) (by omega) ?_;intro A5 c5 w5 h5 _;have kP5:=h5.at_ (i:=1) rfl;have kX5:=h5.at_ (i:=2) rfl;have H5:=Hd h5;unfold Zbr at kP5;clear h5)
 all_goals
  go_wp2_with fail
  obtain⟨w6,hw6⟩:=exl (w5.setCell ⟨P,3,none⟩ (.slice A5 (0+n) c5))
  have h6:=H5.out.set_ (i:=1) rfl 3 (.slice A5 (0+n) c5)
  first
   | (have hw60:=hw6;rw[hw6]at h6⊢)
   | (have hz:w5.setCell ⟨P,3,none⟩ (.slice A5 n c5)=w6:=by rw[<-hw6,Nat.zero_add]
      rw[hw6]at h6
      rw[hz])
  rw[Nat.zero_add,List.nil_append]at h6
  change Sep w6 (Zad _ 1 (.slice A5 n c5) n (bs blk)::Zaa P _ (Zbr id 1 en (.slice A5 n c5))::_)at h6
  have h7:=Sep.ordN h6 5 [4,1,0] rfl (by decide)
  simp only[Zbo,Zbd,Zam,erS,erZ]at h7
  have kX:=h6.at_ (i:=2) rfl
  have kP:=h6.at_ (i:=1) rfl
  have H7:=Hd h7
  unfold Zbr at kP
  clear kP5 kX5 n1 n2 HR H4 H5 hw6 h6 h7
  go_wp2_with fail
  refine(HW.out w6 P c5 A5 H7.out).mono ?_
  rintro e w8 ⟨rfl,hq⟩
  have HQ:=Hd hq
  clear hq HW
  go_wp2
  refine bodyPost_end (results_none rfl _ _ _) rfl ?_
  exact⟨rfl,HQ.out⟩
theorem Zxx {w:World}{F:List Zae}{kb C S M MS gg hh n bc ne ec0 tc:Nat}{BA E0 TA:Option Addr}{ys:List Fld}{blk:List UInt8}{xs:List Value}{cl sl:List (Int×Value)}{ord inn out:Value}{iw ow un last fl id:Int}{began en:Bool}(hn:n=blk.length)(hm:n<=2000)(hen:(bits .and .i64 fl 1 !=0)=en)(hwh:(bits .and .i64 fl 4 !=0)=false)
  (h:Sep w (Zad 5 1 (.slice BA n bc) n (bs blk)::Zaa kb 200 (Zaf C S M ord inn out iw ow un began (.pointer none) (.slice E0 ne ec0))::Zad 215 6 (.slice E0 ne ec0) ne xs::Zan Zat M cl::Zaa S 254 (Zbf MS last)::Zan Zat MS sl::Zaa C 93 (Zai gg hh)::Zbw hh TA tc ys 4096::F)):
  CA 214 #[.pointer (some ⟨kb,0,none⟩),.agg #[.int .i64 1,.int .i64 fl,.int .i64 id,.slice BA n bc]] w fun e w'=>e=.returned (.tuple #[])/\∃(P c5:Nat) (A5:Option Addr),Sep w' (Zaa kb 200 (Zaf C S M ord inn out iw ow un began (.pointer (some ⟨P,0,none⟩)) (.slice E0 ne ec0))::Zaa P 307 (Zbr id 1 en (.slice A5 n c5))::Zad 5 1 (.slice A5 n c5) n (bs blk)::Zad 215 6 (.slice E0 ne ec0) ne xs::Zan Zat M cl::Zaa S 254 (Zbf MS last)::Zan Zat MS sl::Zaa C 93 (Zai gg hh)::Zbw hh TA tc ys 4096::F):=by
 have h1:=h.newBlk 134 #[.int .i64 1,.int .i64 fl,.int .i64 id,.slice BA n bc]
 have kX:=h1.at_ (i:=0) rfl
 have kK:=h1.at_ (i:=2) rfl
 have h2:=h1.newBlk 307 (Zbr id 0 en (.slice none 0 0))
 simp only[World.size_alloc]at h2
 unfold Zbr at h2
 have kP2:=h2.at_ (i:=0) rfl
 have kX2:=h2.at_ (i:=1) rfl
 have kK2:=h2.at_ (i:=3) rfl
 have n1:kb≠w.heap.size:=h2.ne_ (i:=3) (i':=1) rfl rfl (by decide)
 have n2:=Ne.symm n1
 have n3:kb≠w.heap.size+1:=h2.ne_ (i:=3) (i':=0) rfl rfl (by decide)
 have n4:=Ne.symm n3
 have H2:=Hd h2
 have HN:=Hd hn
 unfold Zaf at kK kK2
 clear h h1 h2 hn
 go_enter func214,ntmps214
 go_wp2_with fail
 obtain⟨w3,hw3⟩:=exl ((((w.alloc (.cells #[.int .i64 1,.int .i64 fl,.int .i64 id,.slice BA n bc] 134)).alloc (.cells #[.int .i64 id,.int .i64 0,.bool en,.slice none 0 0] 307)).setCell ⟨kb,12,none⟩ (.pointer (some ⟨w.heap.size+1,0,none⟩))).setCell ⟨w.heap.size+1,1,none⟩ (.int .i64 1))
 have h3:=(H2.out.set_ (i:=3) rfl 12 (.pointer (some ⟨w.heap.size+1,0,none⟩))).set_ (i:=0) rfl 1 (.int .i64 1)
 rw[hw3]at h3⊢
 obtain⟨P,hP⟩:=exl (w.heap.size+1)
 rw[hP]at h3⊢
 change Sep w3 (Zaa P _ (Zbr id 1 en (.slice none 0 0))::_::_::Zaa kb 200 (Zaf C S M ord inn out iw ow un began (.pointer (some ⟨P,0,none⟩)) (.slice E0 ne ec0))::_)at h3
 have h4:=h3.nilRow 5 1
 clear kX kK kP2 kX2 kK2 n1 n2 n3 n4 H2 hw3 h3 hP
 have kP:=h4.at_ (i:=1) rfl
 have kX:=h4.at_ (i:=2) rfl
 have HR:=Hd (Zag h4.drew (i:=3) rfl)
 have n1:=h4.ne_ (i:=1) (i':=2) rfl rfl (by decide)
 have n2:=Ne.symm n1
 have H4:=Hd h4.drew
 unfold Zbr at kP
 clear h4
 go_region_law (refine Zcq rfl _ _ 23 5 rfl underlying23 Zbz rfl (by decide) (by decide) _ 0 [] H4.out (i:=0) rfl (by simp[Act.eval,Act.put]) BA n bc (bs blk) HR.out (Zcj _) (by simp[Act.eval,Act.put]) (by omega) ?_;intro A5 c5 w5 h5 _;have kP5:=h5.at_ (i:=1) rfl;have kX5:=h5.at_ (i:=2) rfl;have H5:=Hd h5;unfold Zbr at kP5;clear h5)
 all_goals
  go_wp2_with fail
  obtain⟨w6,hw6⟩:=exl (w5.setCell ⟨P,3,none⟩ (.slice A5 (0+n) c5))
  have h6:=H5.out.set_ (i:=1) rfl 3 (.slice A5 (0+n) c5)
  first
   | (have hw60:=hw6;rw[hw6]at h6⊢)
   | (have hz:w5.setCell ⟨P,3,none⟩ (.slice A5 n c5)=w6:=by rw[<-hw6,Nat.zero_add]
      rw[hw6]at h6
      rw[hz])
  rw[Nat.zero_add,List.nil_append]at h6
  change Sep w6 (Zad _ 1 (.slice A5 n c5) n (bs blk)::Zaa P _ (Zbr id 1 en (.slice A5 n c5))::_)at h6
  have h7:=Sep.ordN h6 5 [4,1,0] rfl (by decide)
  simp only[Zbo,Zbd,Zam,erS,erZ]at h7
  have kX:=h6.at_ (i:=2) rfl
  have kP:=h6.at_ (i:=1) rfl
  have H7:=Hd h7
  unfold Zbr at kP
  clear kP5 kX5 n1 n2 HR H4 H5 hw6 h6 h7
  go_wp2
  refine bodyPost_end (results_none rfl _ _ _) rfl ?_
  exact⟨rfl,P,c5,A5,H7.out⟩
theorem vh_moreW {w:World}{F:List Zae}{kb C S M MS gg hh n bc ne ec0 tc:Nat}{BA E0 TA:Option Addr}{ys:List Fld}{blk:List UInt8}{xs:List Value}{cl sl:List (Int×Value)}{ord inn out:Value}{iw ow un last fl id:Int}{began en:Bool}{P n0 c0 many:Nat}{A0:Option Addr}{blk0:List UInt8}(Q:World->Prop)(hn:n=blk.length)(hn0:n0=blk0.length)(hm:n0+n<=40000)(hmany:many<=15)(hwh:(bits .and .i64 fl 4 !=0)=true)
  (hW:∀(w6:World) (c5:Nat) (A5:Option Addr),Sep w6 (Zaa kb 200 (Zaf C S M ord inn out iw ow un began (.pointer (some ⟨P,0,none⟩)) (.slice E0 ne ec0))::Zaa P 307 (Zbr id ((many+1:Nat):Int) en (.slice A5 (n0+n) c5))::Zad 5 1 (.slice A5 (n0+n) c5) (n0+n) (bs (blk0++blk))::Zad 215 6 (.slice E0 ne ec0) ne xs::Zan Zat M cl::Zaa S 254 (Zbf MS last)::Zan Zat MS sl::Zaa C 93 (Zai gg hh)::Zbw hh TA tc ys 4096::F)->CA 273 #[.pointer (some ⟨kb,0,none⟩),.pointer (some ⟨P,0,none⟩)] w6 fun e w'=>e=.returned (.tuple #[])/\Q w')
  (h:Sep w (Zad 5 1 (.slice BA n bc) n (bs blk)::Zaa kb 200 (Zaf C S M ord inn out iw ow un began (.pointer (some ⟨P,0,none⟩)) (.slice E0 ne ec0))::Zaa P 307 (Zbr id ((many:Nat):Int) en (.slice A0 n0 c0))::Zad 5 1 (.slice A0 n0 c0) n0 (bs blk0)::Zad 215 6 (.slice E0 ne ec0) ne xs::Zan Zat M cl::Zaa S 254 (Zbf MS last)::Zan Zat MS sl::Zaa C 93 (Zai gg hh)::Zbw hh TA tc ys 4096::F)):
  CA 214 #[.pointer (some ⟨kb,0,none⟩),.agg #[.int .i64 2,.int .i64 fl,.int .i64 id,.slice BA n bc]] w fun e w'=>e=.returned (.tuple #[])/\Q w':=by
 have h1:=h.newBlk 134 #[.int .i64 2,.int .i64 fl,.int .i64 id,.slice BA n bc]
 have kX:=h1.at_ (i:=0) rfl
 have kK:=h1.at_ (i:=2) rfl
 have kP:=h1.at_ (i:=3) rfl
 have n1:=h1.ne_ (i:=0) (i':=3) rfl rfl (by decide)
 have n2:=Ne.symm n1
 have n3:=h1.ne_ (i:=2) (i':=3) rfl rfl (by decide)
 have n4:=Ne.symm n3
 have H1:=Hd h1
 have HW:=Hd hW
 have HN:=Hd (And.intro hn hn0)
 unfold Zaf at kK
 unfold Zbr at kP
 clear h h1 hW hn hn0
 go_enter func214,ntmps214
 go_wp2_with fail
 obtain⟨w3,hw3⟩:=exl ((w.alloc (.cells #[.int .i64 2,.int .i64 fl,.int .i64 id,.slice BA n bc] 134)).setCell ⟨P,1,none⟩ (.int .i64 (((many:Nat):Int)+1)))
 have h3:=H1.out.set_ (i:=3) rfl 1 (.int .i64 (((many:Nat):Int)+1))
 rw[hw3]at h3⊢
 change Sep w3 (_::_::_::Zaa P _ (Zbr id (((many:Nat):Int)+1) en (.slice A0 n0 c0))::_)at h3
 rw[show((many:Nat):Int)+1=((many+1:Nat):Int)from rfl]at h3
 have h4:=Sep.ordN h3 5 [4,3,0,1,2] rfl (by decide)
 simp only[Zbo,Zbd,Zam,erS,erZ]at h4
 clear kX kK kP n1 n2 n3 n4 H1 hw3 h3
 have kP:=h4.at_ (i:=1) rfl
 have kX:=h4.at_ (i:=2) rfl
 have HR:=Hd (Zag h4.drew (i:=3) rfl)
 have n1:=h4.ne_ (i:=1) (i':=2) rfl rfl (by decide)
 have n2:=Ne.symm n1
 have H4:=Hd h4.drew
 unfold Zbr at kP
 clear h4
 go_region_law (refine Zcq rfl _ _ 23 5 rfl underlying23 Zbz rfl (by decide) (by decide) _ n0 (bs blk0) H4.out (i:=0) rfl (by simp[Act.eval,Act.put]) BA n bc (bs blk) HR.out (Zcj _) (by simp[Act.eval,Act.put]) (by omega) ?_;intro A5 c5 w5 h5 _;have kP5:=h5.at_ (i:=1) rfl;have kX5:=h5.at_ (i:=2) rfl;have H5:=Hd h5;unfold Zbr at kP5;clear h5)
 all_goals
  go_wp2_with fail
  obtain⟨w6,hw6⟩:=exl (w5.setCell ⟨P,3,none⟩ (.slice A5 (n0+n) c5))
  have h6:=H5.out.set_ (i:=1) rfl 3 (.slice A5 (n0+n) c5)
  first
   | (have hw60:=hw6;rw[hw6]at h6⊢)
   | (have hz:w5.setCell ⟨P,3,none⟩ (.slice A5 n c5)=w6:=by rw[<-hw6,Nat.zero_add]
      rw[hw6]at h6
      rw[hz])
  rw[<-Za1]at h6
  change Sep w6 (Zad _ 1 (.slice A5 (n0+n) c5) (n0+n) (bs (blk0++blk))::Zaa P _ (Zbr id ((many+1:Nat):Int) en (.slice A5 (n0+n) c5))::_)at h6
  have h7:=Sep.ordN h6 5 [4,1,0] rfl (by decide)
  simp only[Zbo,Zbd,Zam,erS,erZ]at h7
  have kX:=h6.at_ (i:=2) rfl
  have kP:=h6.at_ (i:=1) rfl
  have H7:=Hd h7
  unfold Zbr at kP
  clear kP5 kX5 n1 n2 HR H4 H5 hw6 h6 h7
  go_wp2_with fail
  refine(HW.out w6 c5 A5 H7.out).mono ?_
  rintro e w8 ⟨rfl,hq⟩
  have HQ:=Hd hq
  clear hq HW
  go_wp2
  refine bodyPost_end (results_none rfl _ _ _) rfl ?_
  exact⟨rfl,HQ.out⟩
theorem vd_data {w:World}{F:List Zae}{kb C S M MS X k n bc ne ec0 iw un:Nat}{BA E0:Option Addr}{b:List UInt8}{xs:List Value}{cl sl:List (Int×Value)}{ord inn out part:Value}{ow last:Int}{began:Bool}
  (hk:k < 1000) (hn:n<=900) (hiw:n<=iw) (hiw2:iw<=2000) (hun:un<=2000) (hne:ne<=1000) (hl:sid k<=last) (hcv:Za8 cl (sid k)=some (ptr X)) (hsv:Za8 sl (sid k)=some (.int .i64 1)) (hsd:(sl.map (·.1)).Nodup)
  (h:Sep w (Zad 5 1 (.slice BA n bc) n (bs b)::Zaa kb 200 (Zaf C S M ord inn out ((iw:Nat):Int) ow ((un:Nat):Int) began part (.slice E0 ne ec0))::Zad 215 6 (.slice E0 ne ec0) ne xs::Zan Zat M cl::Zaa X 313 (Zbn 2000 2000 0 (.slice none 0 0) false false)::
   Zaa S 254 (Zbf MS last)::Zan Zat MS sl::F)):
  CA 215 #[.pointer (some ⟨kb,0,none⟩),.agg #[.int .i64 0,.int .i64 1,.int .i64 (sid k),.slice BA n bc]] w fun e w'=>e=.returned (.tuple #[])/\∃E ec,Sep w' (Zaa kb 200 (Zaf C S M ord inn out ((iw-n:Nat):Int) ow ((un+n:Nat):Int) began part (.slice E (ne+1) ec))::
   Zad 215 6 (.slice E (ne+1) ec) (ne+1) (xs++(evV 2 (sid k) 0 (.slice none 0 0) (.slice BA n bc) true).toList)::Zad 5 1 (.slice BA n bc) n (bs b)::Zan Zat M cl::Zaa X 313 (Zbn ((2000-n:Nat):Int) 2000 ((n:Nat):Int) (.slice none 0 0) false false)::
   Zaa S 254 (Zbf MS last)::Zan Zat MS (Ze3 sl (sid k) (.int .i64 2))::F):=by
 have h1:=h.newBlk 134 #[.int .i64 0,.int .i64 1,.int .i64 (sid k),.slice BA n bc]
 have HSV:=Hd hsv
 have HCV:=Hd hcv
 have HSD:=Hd hsd
 have HL:=Hd hl
 obtain⟨id,hid⟩:=exl (sid k)
 have HID:=Hd hid
 rw[hid]at h1⊢
 have kX:=h1.at_ (i:=0) rfl
 have H1:=Hd h1
 have b11:(bits .and .i64 1 1 !=0)=true:=by decide
 clear h h1 hsv hcv hsd hid hl
 go_enter func215,ntmps215
 go_wp2
 go_quiet (fail)
 obtain⟨w2,hw2⟩:=exl ((w.alloc (.cells #[.int .i64 0,.int .i64 1,.int .i64 id,.slice BA n bc] 134)).drewN nq)
 have h2:=H1.out.drewN nq
 rw[hw2]at h2⊢
 clear kX H1 hw2
 have kX:=h2.at_ (i:=0) rfl
 have kK:=h2.at_ (i:=2) rfl
 have H2:=Hd h2
 unfold Zaf at kK
 clear h2
 go_wp2_with fail
 refine(vc_stop1 H2.out (i:=2) (j:=4) (k:=5) rfl rfl (HID.out ▸ HCV.out) rfl).mono ?_
 rintro e w' ⟨rfl,rfl⟩
 go_wp2_with fail
 refine(show Calls _ _ #[_,.int .i64 id] _ _ from HID.out ▸ Zgq k 1 hk HL.out HSV.out H2.out (i:=6) (j:=7) rfl rfl).mono ?_
 rintro e w' ⟨rfl,rfl⟩
 go_wp2_with fail
 refine(Zjj w2).mono ?_
 rintro e w' ⟨rfl,rfl⟩
 go_wp2_with fail
 refine(Zcy H2.out (i:=2) (b:=kb) (o:=6) (n:=iw) (k:=n) rfl rfl hiw (by omega)).mono ?_
 rintro e w3 ⟨rfl,h3⟩
 change Sep w3 (_::_::Zaa kb _ (Zaf C S M ord inn out ((iw-n:Nat):Int) ow ((un:Nat):Int) began part (.slice E0 ne ec0))::_)at h3
 clear kX kK
 have kX:=h3.at_ (i:=0) rfl
 have kK:=h3.at_ (i:=2) rfl
 have kC:=h3.at_ (i:=5) rfl
 have n1:=h3.ne_ (i:=2) (i':=5) rfl rfl (by decide)
 have n2:=Ne.symm n1
 have n3:=h3.ne_ (i:=0) (i':=5) rfl rfl (by decide)
 have n4:=Ne.symm n3
 have n5:=h3.ne_ (i:=0) (i':=2) rfl rfl (by decide)
 have n6:=Ne.symm n5
 have H3:=Hd h3
 unfold Zaf at kK
 unfold Zbn at kC
 clear h3
 go_wp2_with fail
 refine(Zx0 H3.out (i:=2) (j:=4) rfl rfl (HID.out ▸ HCV.out)).mono ?_
 rintro e w' ⟨rfl,rfl⟩
 go_wp2_with fail
 obtain⟨w4,hw4⟩:=exl ((w3.setCell ⟨X,2,none⟩ (.int .i64 ((n:Nat):Int))).setCell ⟨kb,9,none⟩ (.int .i64 (((un:Nat):Int)+((n:Nat):Int))))
 have h4:=(H3.out.set_ (i:=5) rfl 2 (.int .i64 ((n:Nat):Int))).set_ (i:=2) rfl 9 (.int .i64 (((un:Nat):Int)+((n:Nat):Int)))
 rw[hw4,<-Int.natCast_add]at h4
 rw[hw4]
 change Sep w4 (_::_::Zaa kb _ (Zaf C S M ord inn out ((iw-n:Nat):Int) ow ((un+n:Nat):Int) began part (.slice E0 ne ec0))::_::_::Zaa X _ (Zbn 2000 2000 ((n:Nat):Int) (.slice none 0 0) false false)::_)at h4
 clear kX kK kC n1 n2 n3 n4 n5 n6 hw4
 have kX:=h4.at_ (i:=0) rfl
 have kK:=h4.at_ (i:=2) rfl
 have H4:=Hd h4
 unfold Zaf at kK
 clear h4
 refine(Zcy H4.out (i:=5) (b:=X) (o:=0) (n:=2000) (k:=n) rfl rfl (by omega) (by decide)).mono ?_
 rintro e w5 ⟨rfl,h5⟩
 change Sep w5 (_::_::_::_::_::Zaa X _ (Zbn ((2000-n:Nat):Int) 2000 ((n:Nat):Int) (.slice none 0 0) false false)::_)at h5
 clear kX kK
 have kX:=h5.at_ (i:=0) rfl
 have kK:=h5.at_ (i:=2) rfl
 have H5:=Hd h5
 unfold Zaf at kK
 clear h5
 go_wp2_with fail
 refine(show Calls _ _ #[_,.int .i64 id,_] _ _ from HID.out ▸ Ztw k 1 2 hk (.inr (.inl rfl)) (by decide) HL.out HSV.out HSD.out H5.out (i:=6) (j:=7) rfl rfl).mono ?_
 rintro e w6 ⟨rfl,h6⟩
 clear kX kK
 have kX:=h6.at_ (i:=0) rfl
 have h6':=Sep.ordN h6 4 [2,3,1,0] rfl (by decide)
 simp only[Zbd,List.set_cons_succ,List.set_cons_zero,List.map_cons,List.map_nil,List.cons_append,List.nil_append,List.drop_succ_cons,List.drop_zero]at h6'
 have H6:=Hd h6'
 clear h6 h6'
 go_wp2_with fail
 refine(Ztz hne 2 id 0 none BA 0 0 n bc true H6.out).mono ?_
 rintro e w7 ⟨rfl,E,ec,h7⟩
 have H7:=Hd h7
 clear h7 H6 H5 H4 H3 H2 kX
 go_wp2
 refine bodyPost_end (results_none rfl _ _ _) rfl ?_
 exact⟨rfl,E,ec,H7.out.drop_ 3⟩
theorem sizes_M (F S:Int)(A:Option Addr)(n c:Nat)(w:World):
  CA 272 #[.agg #[.int .i64 2,.int .i64 F,.int .i64 S,.slice A n c]] w fun e w'=>e=.returned (.bool true)/\Below w.heap.size w w':=by
 go_enter func272,ntmps272
 go_wp2
 go_ret
 exact⟨rfl,(Below.refl _ _).alloc (Nat.le_refl _) _⟩
theorem Zti (K F id:Int)(A:Option Addr)(n c:Nat)(hK:K=0∨K=1∨K=2)(hid:1<=id)(w:World):
  CA 213 #[.agg #[.int .i64 K,.int .i64 F,.int .i64 id,.slice A n c]] w fun e w'=>e=.returned (.int .i64 0)/\Below w.heap.size w w':=by
 obtain⟨hb0,hX,hY⟩:=Zka w K F id A n c 0
 have HZ:=Hd (show∀w0,CA 272 #[.agg #[.int .i64 K,.int .i64 F,.int .i64 id,.slice A n c]] w0 fun e w'=>e=.returned (.bool true)/\Below w0.heap.size w0 w' from fun w0=>by
  rcases hK with h | h | h
  ·exact Zkp K F id A n c (.inl h) w0
  ·exact Zkp K F id A n c (.inr (.inl h)) w0
  ·subst h;exact sizes_M F id A n c w0)
 have HB0:=Hd hb0
 have HX:=Hd hX
 have HY0:=Hd hY
 have h0:¬id=0:=by omega
 clear hb0 hX hY
 rcases hK with rfl | rfl | rfl
 all_goals
  go_enter func213,ntmps213
  go_wp2_with fail
  refine(HZ.out _).mono ?_
  rintro e w1 ⟨rfl,hb1⟩
  have x1:=HX.out.below hb1 HX.out.lt
  have y1:=HY0.out.below hb1 HY0.out.lt
  have x0:=x1.cell 0
  have x3:=x1.cell 3
  have y0:=y1.cell 0
  have yf:=y1.frozen 0
  have yl:=y1.lt
  have HB:=Hd (HB0.out.trans (hb1.mono HB0.out.size))
  have HY:=Hd (y1.set_ 0 (.int .i64 0))
  clear x1 y1 hb1
  go_wp2
  refine bodyPost_ret (Zes rfl _ _ (w.heap.size+1) (.int .i64 0) rfl (HY.out.cell 0) underlying3) rfl ?_
  exact⟨rfl,HB.out.setCell (p:=⟨w.heap.size+1,0,none⟩) (Nat.le_succ _) _⟩
theorem Zxs {w:World}{L:List Zae}{i kb C S M n bc:Nat}{BA:Option Addr}{ord inn out evs:Value}{iw ow un fl id:Int}(Q:World->Prop)(hid:1<=id)
  (hi:L[i]? =some (Zaa kb 200 (Zaf C S M ord inn out iw ow un true (.pointer none) evs)))
  (hW:∀w6:World,Sep w6 L->CA 214 #[.pointer (some ⟨kb,0,none⟩),.agg #[.int .i64 1,.int .i64 fl,.int .i64 id,.slice BA n bc]] w6 fun e w'=>e=.returned (.tuple #[])/\Q w')
  (h:Sep w L):
  CA 162 #[.pointer (some ⟨kb,0,none⟩),.agg #[.int .i64 1,.int .i64 fl,.int .i64 id,.slice BA n bc]] w fun e w'=>e=.returned (.tuple #[])/\Q w':=by
 have h1:=h.newBlk 134 #[.int .i64 1,.int .i64 fl,.int .i64 id,.slice BA n bc]
 have hi1:(Zaa w.heap.size 134 #[.int .i64 1,.int .i64 fl,.int .i64 id,.slice BA n bc]::L)[i+1]? =some (Zaa kb 200 (Zaf C S M ord inn out iw ow un true (.pointer none) evs)):=hi
 have kX:=h1.at_ (i:=0) rfl
 have kK:=h1.at_ hi1
 have H1:=Hd h1
 have HW:=Hd hW
 unfold Zaf at kK
 clear h h1 hW
 go_enter func162,ntmps162
 go_wp2
 go_quiet (fail)
 obtain⟨w2,hw2⟩:=exl ((w.alloc (.cells #[.int .i64 1,.int .i64 fl,.int .i64 id,.slice BA n bc] 134)).drewN nq)
 have h2:=H1.out.drewN nq
 rw[hw2]at h2⊢
 clear kX kK H1 hw2
 have kX:=h2.at_ (i:=0) rfl
 have kK:=h2.at_ hi1
 have H2:=Hd h2
 unfold Zaf at kK
 clear h2
 go_wp2_with fail
 refine(Zti 1 fl id BA n bc (.inr (.inl rfl)) hid w2).mono ?_
 rintro e w3 ⟨rfl,hb3⟩
 have h3:=H2.out.below hb3
 clear kX kK H2 hb3
 have kX:=h3.at_ (i:=0) rfl
 have kK:=h3.at_ hi1
 have n1:=h3.ne_ hi1 (i':=0) rfl (by omega)
 have n2:=Ne.symm n1
 have H3:=Hd h3
 unfold Zaf at kK
 clear h3
 go_wp2_with fail
 obtain⟨w4,hw4⟩:=exl (w3.setCell ⟨kb,10,none⟩ (.bool true))
 have h4:=H3.out.set_ hi1 10 (.bool true)
 have hs:(Zaf C S M ord inn out iw ow un true (.pointer none) evs).setIfInBounds 10 (.bool true)=Zaf C S M ord inn out iw ow un true (.pointer none) evs:=rfl
 rw[hw4,hs,List.set_cons_succ]at h4
 rw[hw4]
 have hL:L.set i (Zaa kb 200 (Zaf C S M ord inn out iw ow un true (.pointer none) evs))=L:=by
  apply List.ext_getElem?
  intro j
  rw[List.getElem?_set]
  by_cases hj:i=j
  ·subst hj
   have hlt:=(List.getElem?_eq_some_iff.1 hi).1
   rw[if_pos rfl,if_pos hlt,hi]
  ·rw[if_neg hj]
 rw[hL]at h4
 clear kX kK n1 n2 hw4 hs hL
 refine(HW.out w4 h4.tail).mono ?_
 rintro e w8 ⟨rfl,hq⟩
 have H8:=Hd hq
 clear h4 hq H3 HW
 go_wp2
 refine bodyPost_end (results_none rfl _ _ _) rfl ?_
 exact⟨rfl,H8.out⟩
theorem vr_data {w:World}{L:List Zae}{i kb C S M n bc:Nat}{BA:Option Addr}{ord inn out evs:Value}{iw ow un fl id:Int}(Q:World->Prop)(hid:1<=id)
  (hi:L[i]? =some (Zaa kb 200 (Zaf C S M ord inn out iw ow un true (.pointer none) evs)))
  (hW:∀w6:World,Sep w6 L->CA 215 #[.pointer (some ⟨kb,0,none⟩),.agg #[.int .i64 0,.int .i64 fl,.int .i64 id,.slice BA n bc]] w6 fun e w'=>e=.returned (.tuple #[])/\Q w')
  (h:Sep w L):
  CA 162 #[.pointer (some ⟨kb,0,none⟩),.agg #[.int .i64 0,.int .i64 fl,.int .i64 id,.slice BA n bc]] w fun e w'=>e=.returned (.tuple #[])/\Q w':=by
 have h1:=h.newBlk 134 #[.int .i64 0,.int .i64 fl,.int .i64 id,.slice BA n bc]
 have hi1:(Zaa w.heap.size 134 #[.int .i64 0,.int .i64 fl,.int .i64 id,.slice BA n bc]::L)[i+1]? =some (Zaa kb 200 (Zaf C S M ord inn out iw ow un true (.pointer none) evs)):=hi
 have kX:=h1.at_ (i:=0) rfl
 have kK:=h1.at_ hi1
 have H1:=Hd h1
 have HW:=Hd hW
 unfold Zaf at kK
 clear h h1 hW
 go_enter func162,ntmps162
 go_wp2
 go_quiet (fail)
 obtain⟨w2,hw2⟩:=exl ((w.alloc (.cells #[.int .i64 0,.int .i64 fl,.int .i64 id,.slice BA n bc] 134)).drewN nq)
 have h2:=H1.out.drewN nq
 rw[hw2]at h2⊢
 clear kX kK H1 hw2
 have kX:=h2.at_ (i:=0) rfl
 have kK:=h2.at_ hi1
 have H2:=Hd h2
 unfold Zaf at kK
 clear h2
 go_wp2_with fail
 refine(Zti 0 fl id BA n bc (.inl rfl) hid w2).mono ?_
 rintro e w3 ⟨rfl,hb3⟩
 have h3:=H2.out.below hb3
 clear kX kK H2 hb3
 have kX:=h3.at_ (i:=0) rfl
 have kK:=h3.at_ hi1
 have n1:=h3.ne_ hi1 (i':=0) rfl (by omega)
 have n2:=Ne.symm n1
 have H3:=Hd h3
 unfold Zaf at kK
 clear h3
 go_wp2_with fail
 obtain⟨w4,hw4⟩:=exl (w3.setCell ⟨kb,10,none⟩ (.bool true))
 have h4:=H3.out.set_ hi1 10 (.bool true)
 have hs:(Zaf C S M ord inn out iw ow un true (.pointer none) evs).setIfInBounds 10 (.bool true)=Zaf C S M ord inn out iw ow un true (.pointer none) evs:=rfl
 rw[hw4,hs,List.set_cons_succ]at h4
 rw[hw4]
 have hL:L.set i (Zaa kb 200 (Zaf C S M ord inn out iw ow un true (.pointer none) evs))=L:=by
  apply List.ext_getElem?
  intro j
  rw[List.getElem?_set]
  by_cases hj:i=j
  ·subst hj
   have hlt:=(List.getElem?_eq_some_iff.1 hi).1
   rw[if_pos rfl,if_pos hlt,hi]
  ·rw[if_neg hj]
 rw[hL]at h4
 clear kX kK n1 n2 hw4 hs hL
 refine(HW.out w4 h4.tail).mono ?_
 rintro e w8 ⟨rfl,hq⟩
 have H8:=Hd hq
 clear h4 hq H3 HW
 go_wp2
 refine bodyPost_end (results_none rfl _ _ _) rfl ?_
 exact⟨rfl,H8.out⟩
theorem vr_more {w:World}{L:List Zae}{i ip kb C S M n bc P:Nat}{BA:Option Addr}{ord inn out evs:Value}{iw ow un fl id many:Int}{en:Bool}{pv:Value}(Q:World->Prop)(hid:1<=id)
  (hi:L[i]? =some (Zaa kb 200 (Zaf C S M ord inn out iw ow un true (.pointer (some ⟨P,0,none⟩)) evs)))
  (hp:L[ip]? =some (Zaa P 307 (Zbr id many en pv)))
  (hW:∀w6:World,Sep w6 L->CA 214 #[.pointer (some ⟨kb,0,none⟩),.agg #[.int .i64 2,.int .i64 fl,.int .i64 id,.slice BA n bc]] w6 fun e w'=>e=.returned (.tuple #[])/\Q w')
  (h:Sep w L):
  CA 162 #[.pointer (some ⟨kb,0,none⟩),.agg #[.int .i64 2,.int .i64 fl,.int .i64 id,.slice BA n bc]] w fun e w'=>e=.returned (.tuple #[])/\Q w':=by
 have h1:=h.newBlk 134 #[.int .i64 2,.int .i64 fl,.int .i64 id,.slice BA n bc]
 have hi1:(Zaa w.heap.size 134 #[.int .i64 2,.int .i64 fl,.int .i64 id,.slice BA n bc]::L)[i+1]? =some (Zaa kb 200 (Zaf C S M ord inn out iw ow un true (.pointer (some ⟨P,0,none⟩)) evs)):=hi
 have hp1:(Zaa w.heap.size 134 #[.int .i64 2,.int .i64 fl,.int .i64 id,.slice BA n bc]::L)[ip+1]? =some (Zaa P 307 (Zbr id many en pv)):=hp
 have kX:=h1.at_ (i:=0) rfl
 have kK:=h1.at_ hi1
 have kP:=h1.at_ hp1
 unfold Zbr at kP
 have H1:=Hd h1
 have HW:=Hd hW
 unfold Zaf at kK
 clear h h1 hW
 go_enter func162,ntmps162
 go_wp2
 go_quiet (fail)
 obtain⟨w2,hw2⟩:=exl ((w.alloc (.cells #[.int .i64 2,.int .i64 fl,.int .i64 id,.slice BA n bc] 134)).drewN nq)
 have h2:=H1.out.drewN nq
 rw[hw2]at h2⊢
 clear kX kK kP H1 hw2
 have kX:=h2.at_ (i:=0) rfl
 have kK:=h2.at_ hi1
 have H2:=Hd h2
 unfold Zaf at kK
 clear h2
 go_wp2_with fail
 refine(Zti 2 fl id BA n bc (.inr (.inr rfl)) hid w2).mono ?_
 rintro e w3 ⟨rfl,hb3⟩
 have h3:=H2.out.below hb3
 clear kX kK H2 hb3
 have kX:=h3.at_ (i:=0) rfl
 have kK:=h3.at_ hi1
 have n1:=h3.ne_ hi1 (i':=0) rfl (by omega)
 have n2:=Ne.symm n1
 have H3:=Hd h3
 unfold Zaf at kK
 clear h3
 go_wp2_with fail
 obtain⟨w4,hw4⟩:=exl (w3.setCell ⟨kb,10,none⟩ (.bool true))
 have h4:=H3.out.set_ hi1 10 (.bool true)
 have hs:(Zaf C S M ord inn out iw ow un true (.pointer (some ⟨P,0,none⟩)) evs).setIfInBounds 10 (.bool true)=Zaf C S M ord inn out iw ow un true (.pointer (some ⟨P,0,none⟩)) evs:=rfl
 rw[hw4,hs,List.set_cons_succ]at h4
 rw[hw4]
 have hL:L.set i (Zaa kb 200 (Zaf C S M ord inn out iw ow un true (.pointer (some ⟨P,0,none⟩)) evs))=L:=by
  apply List.ext_getElem?
  intro j
  rw[List.getElem?_set]
  by_cases hj:i=j
  ·subst hj
   have hlt:=(List.getElem?_eq_some_iff.1 hi).1
   rw[if_pos rfl,if_pos hlt,hi]
  ·rw[if_neg hj]
 rw[hL]at h4
 clear kX kK n1 n2 hw4 hs hL
 refine(HW.out w4 h4.tail).mono ?_
 rintro e w8 ⟨rfl,hq⟩
 have H8:=Hd hq
 clear h4 hq H3 HW
 go_wp2
 refine bodyPost_end (results_none rfl _ _ _) rfl ?_
 exact⟨rfl,H8.out⟩
theorem Znp (k:Nat):1<=sid k:=by unfold sid;omega
section
variable {w:World} {F:List Zae} {rI:Zae} {kb C S M MS gg hh k ne ec0 tc bc:Nat} {BA E0 TA:Option Addr} {ys ys' L:List Fld} {blk:List UInt8} {xs:List Value} {cl sl:List (Int×Value)} {ord inn out:Value} {iw ow un last:Int}
def Z1z (F:List Zae)(rI:Zae)(kb C S M MS gg hh k ne:Nat)(ys' L:List Fld)(xs:List Value)(cl sl:List (Int×Value))(ord inn out:Value)(iw ow un:Int)(fin:Bool)(w':World):Prop:=
 ∃X D dc E ec TA' tc',Sep w' (Zaa kb 200 (Zaf C S M ord inn out iw ow un true (.pointer none) (.slice E (ne+1) ec))::rI::
   Zad 215 6 (.slice E (ne+1) ec) (ne+1) (xs++(evV 1 (sid k) 0 (.slice D L.length dc) (.slice none 0 0) fin).toList)::Zan Zat M (cl++[(sid k,ptr X)])::
   Zaa S 254 (Zbf MS (sid k))::Zan Zat MS (sl++[(sid k,.int .i64 (if fin then 2 else 1))])::Zaa C 93 (Zai gg hh)::Zbw hh TA' tc' ys' 4096::Zaa X 313 (Zbn 2000 2000 0 (.slice none 0 0) false false)::Zad 41 2 (.slice D L.length dc) L.length (fvs L)::F)
theorem Zkc (fin:Bool):(bits .and .i64 ((if fin then 1 else 0)+4) 1 !=0)=fin/\(bits .and .i64 ((if fin then 1 else 0)+4) 4 !=0)=true/\(bits .and .i64 ((if fin then 1 else 0)+0) 1 !=0)=fin/\(bits .and .i64 ((if fin then 1 else 0)+0) 4 !=0)=false:=by
 cases fin <;> exact⟨by kernel_rfl,by kernel_rfl,by kernel_rfl,by kernel_rfl⟩
theorem vx_headW (hk:k < 1000)(fin:Bool)(h0:0 < blk.length)(hb:blk.length<=1024)(hne:ne<=1000)(hl:last < sid k)(hcv:Za8 cl (sid k)=none)(hsv:Za8 sl (sid k)=none)(hsd:(sl.map (·.1)).Nodup)(hsn:sl.length<=15)(hint:∀p∈sl,∃st,p.2=.int .i64 st)(hH:heard 4096 ys 4096 [] blk=⟨0,ys',4096,L,0⟩)
  (h:Sep w (Zaa kb 200 (Zaf C S M ord inn out iw ow un true (.pointer none) (.slice E0 ne ec0))::rI::Zad 5 1 (.slice BA blk.length bc) blk.length (bs blk)::Zad 215 6 (.slice E0 ne ec0) ne xs::Zan Zat M cl::Zaa S 254 (Zbf MS last)::Zan Zat MS sl::Zaa C 93 (Zai gg hh)::Zbw hh TA tc ys 4096::F)):
  CA 162 #[.pointer (some ⟨kb,0,none⟩),.agg #[.int .i64 1,.int .i64 ((if fin then 1 else 0)+4),.int .i64 (sid k),.slice BA blk.length bc]] w fun e w'=>e=.returned (.tuple #[])/\Z1z F rI kb C S M MS gg hh k ne ys' L xs cl sl ord inn out iw ow un fin w':=by
 refine Zxs _ (Znp k) (i:=0) rfl (fun w6 h6=> ?_) h
 have h7:=Sep.ordN h6 9 [2,0,3,4,5,6,7,8,1] rfl (by decide)
 simp only[Zbo,Zbd,Zam,erS,erZ]at h7
 refine Zxw _ rfl (by omega) (Zkc fin).1 (Zkc fin).2.1 (fun w8 P c5 A5 h8=> ?_) h7
 have h9:=Sep.ordN h8 10 [7,8,2,0,3,4,5,6,1,9] rfl (by decide)
 simp only[Zbo,Zbd,Zam,erS,erZ]at h9
 refine(Ztx hk rfl h0 (by omega) hne hl hcv hsv hsd hsn hint hH h9).mono ?_
 rintro e w9 ⟨rfl,X,D,dc,E,ec,TA',tc',h10⟩
 have h11:=Sep.ordN h10 10 [0,9,1,3,4,5,7,8,2,6] rfl (by decide)
 simp only[Zbo,Zbd,Zam,erS,erZ]at h11
 exact⟨rfl,X,D,dc,E,ec,TA',tc',h11⟩
theorem vx_headN (fin:Bool)(hb:blk.length<=1024)
  (h:Sep w (Zaa kb 200 (Zaf C S M ord inn out iw ow un true (.pointer none) (.slice E0 ne ec0))::rI::Zad 5 1 (.slice BA blk.length bc) blk.length (bs blk)::Zad 215 6 (.slice E0 ne ec0) ne xs::Zan Zat M cl::Zaa S 254 (Zbf MS last)::Zan Zat MS sl::Zaa C 93 (Zai gg hh)::Zbw hh TA tc ys 4096::F)):
  CA 162 #[.pointer (some ⟨kb,0,none⟩),.agg #[.int .i64 1,.int .i64 ((if fin then 1 else 0)+0),.int .i64 (sid k),.slice BA blk.length bc]] w fun e w'=>e=.returned (.tuple #[])/\∃P c5 A5,Sep w' (Zaa kb 200 (Zaf C S M ord inn out iw ow un true (.pointer (some ⟨P,0,none⟩)) (.slice E0 ne ec0))::rI::
   Zad 215 6 (.slice E0 ne ec0) ne xs::Zan Zat M cl::Zaa S 254 (Zbf MS last)::Zan Zat MS sl::Zaa C 93 (Zai gg hh)::Zbw hh TA tc ys 4096::Zaa P 307 (Zbr (sid k) 1 fin (.slice A5 blk.length c5))::Zad 5 1 (.slice A5 blk.length c5) blk.length (bs blk)::F):=by
 refine Zxs _ (Znp k) (i:=0) rfl (fun w6 h6=> ?_) h
 have h7:=Sep.ordN h6 9 [2,0,3,4,5,6,7,8,1] rfl (by decide)
 simp only[Zbo,Zbd,Zam,erS,erZ]at h7
 refine(Zxx rfl (by omega) (Zkc fin).2.2.1 (Zkc fin).2.2.2 h7).mono ?_
 rintro e w9 ⟨rfl,P,c5,A5,h10⟩
 have h11:=Sep.ordN h10 10 [0,9,3,4,5,6,7,8,1,2] rfl (by decide)
 simp only[Zbo,Zbd,Zam,erS,erZ]at h11
 exact⟨rfl,P,c5,A5,h11⟩
theorem vx_more {P c0:Nat}{A0:Option Addr}{blk0:List UInt8}(hk:k < 1000)(fin:Bool)(h0:0 < blk.length)(hb:blk.length<=1024)(hb0:blk0.length<=1024)(hne:ne<=1000)(hl:last < sid k)(hcv:Za8 cl (sid k)=none)(hsv:Za8 sl (sid k)=none)(hsd:(sl.map (·.1)).Nodup)(hsn:sl.length<=15)(hint:∀p∈sl,∃st,p.2=.int .i64 st)(hH:heard 4096 ys 4096 [] (blk0++blk)=⟨0,ys',4096,L,0⟩)
  (h:Sep w (Zaa kb 200 (Zaf C S M ord inn out iw ow un true (.pointer (some ⟨P,0,none⟩)) (.slice E0 ne ec0))::rI::Zad 5 1 (.slice BA blk.length bc) blk.length (bs blk)::Zad 215 6 (.slice E0 ne ec0) ne xs::Zan Zat M cl::Zaa S 254 (Zbf MS last)::Zan Zat MS sl::Zaa C 93 (Zai gg hh)::Zbw hh TA tc ys 4096::Zaa P 307 (Zbr (sid k) 1 fin (.slice A0 blk0.length c0))::Zad 5 1 (.slice A0 blk0.length c0) blk0.length (bs blk0)::F)):
  CA 162 #[.pointer (some ⟨kb,0,none⟩),.agg #[.int .i64 2,.int .i64 4,.int .i64 (sid k),.slice BA blk.length bc]] w fun e w'=>e=.returned (.tuple #[])/\Z1z F rI kb C S M MS gg hh k ne ys' L xs cl sl ord inn out iw ow un fin w':=by
 refine vr_more _ (Znp k) (i:=0) (ip:=9) rfl rfl (fun w6 h6=> ?_) h
 have h7:=Sep.ordN h6 11 [2,0,9,10,3,4,5,6,7,8,1] rfl (by decide)
 simp only[Zbo,Zbd,Zam,erS,erZ]at h7
 refine vh_moreW (many:=1) _ rfl rfl (by omega) (by decide) (by kernel_rfl) (fun w8 c5 A5 h8=> ?_) h7
 have h9:=Sep.ordN h8 10 [7,8,2,0,3,4,5,6,1,9] rfl (by decide)
 simp only[Zbo,Zbd,Zam,erS,erZ]at h9
 refine(Ztx hk (by rw[List.length_append]) (by omega) (by omega) hne hl hcv hsv hsd hsn hint hH h9).mono ?_
 rintro e w9 ⟨rfl,X,D,dc,E,ec,TA',tc',h10⟩
 have h11:=Sep.ordN h10 10 [0,9,1,3,4,5,7,8,2,6] rfl (by decide)
 simp only[Zbo,Zbd,Zam,erS,erZ]at h11
 exact⟨rfl,X,D,dc,E,ec,TA',tc',h11⟩
end
theorem Zxp {w:World}{F:List Zae}{rI:Zae}{kb C S M MS X k ne ec0 bc iw un:Nat}{BA E0:Option Addr}{b:List UInt8}{xs:List Value}{cl sl:List (Int×Value)}{ord inn out:Value}{ow last:Int}(hk:k < 1000)(hn:b.length<=900)(hiw:b.length<=iw)(hiw2:iw<=2000)(hun:un<=2000)(hne:ne<=1000)(hl:sid k<=last)(hcv:Za8 cl (sid k)=some (ptr X))(hsv:Za8 sl (sid k)=some (.int .i64 1))(hsd:(sl.map (·.1)).Nodup)
  (h:Sep w (Zaa kb 200 (Zaf C S M ord inn out ((iw:Nat):Int) ow ((un:Nat):Int) true (.pointer none) (.slice E0 ne ec0))::rI::Zad 5 1 (.slice BA b.length bc) b.length (bs b)::Zad 215 6 (.slice E0 ne ec0) ne xs::Zan Zat M cl::Zaa S 254 (Zbf MS last)::Zan Zat MS sl::Zaa X 313 (Zbn 2000 2000 0 (.slice none 0 0) false false)::F)):
  CA 162 #[.pointer (some ⟨kb,0,none⟩),.agg #[.int .i64 0,.int .i64 1,.int .i64 (sid k),.slice BA b.length bc]] w fun e w'=>e=.returned (.tuple #[])/\∃E ec,Sep w' (Zaa kb 200 (Zaf C S M ord inn out ((iw-b.length:Nat):Int) ow ((un+b.length:Nat):Int) true (.pointer none) (.slice E (ne+1) ec))::rI::
   Zad 215 6 (.slice E (ne+1) ec) (ne+1) (xs++(evV 2 (sid k) 0 (.slice none 0 0) (.slice BA b.length bc) true).toList)::Zan Zat M cl::Zaa S 254 (Zbf MS last)::Zan Zat MS (Ze3 sl (sid k) (.int .i64 2))::Zaa X 313 (Zbn ((2000-b.length:Nat):Int) 2000 ((b.length:Nat):Int) (.slice none 0 0) false false)::Zad 5 1 (.slice BA b.length bc) b.length (bs b)::F):=by
 refine vr_data _ (Znp k) (i:=0) rfl (fun w6 h6=> ?_) h
 have h7:=Sep.ordN h6 8 [2,0,3,4,7,5,6,1] rfl (by decide)
 simp only[Zbo,Zbd,Zam,erS,erZ]at h7
 refine(vd_data hk hn hiw hiw2 hun hne hl hcv hsv hsd h7).mono ?_
 rintro e w9 ⟨rfl,E,ec,h10⟩
 have h11:=Sep.ordN h10 8 [0,7,1,3,5,6,4,2] rfl (by decide)
 simp only[Zbo,Zbd,Zam,erS,erZ]at h11
 exact⟨rfl,E,ec,h11⟩
end
end Go.Proofs.YtbgnggkgmeagkaaGreatDoor
