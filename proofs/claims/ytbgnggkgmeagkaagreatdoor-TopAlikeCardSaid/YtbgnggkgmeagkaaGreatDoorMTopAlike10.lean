/-
  A part of the proof of TopAlike: each theorem states its own conditions.
-/
import Derived.Test.YtbgnggkgmeagkaaGreatDoorMTopAlike09
import Derived.RangeFuncNested
import Derived.RangeFuncBound
import Derived.RangeFuncCalls
import Derived.RangeFuncLeaves
import Derived.RangeFuncBox
import Derived.Shelf.Abstract
import Derived.Shelf.RegionOpen
import Derived.OwnWalkIn
import Derived.TacticsInMore
import Derived.LoopNIn
import Derived.LoopIn
set_option linter.unusedSimpArgs false
set_option linter.unusedVariables false
set_option maxRecDepth 100000
set_option maxHeartbeats 16000000
namespace Go.Proofs.YtbgnggkgmeagkaaGreatDoor
open Go.Proofs.Tryz
section
open Go.RowKit Go.Shelf
theorem Zag {w:World}{L:List Zae}{i n:Nat}{e:TypeId}{A:Option Addr}{c:Nat}{xs:List Value}(h:Sep w L)(hi:L[i]? =some (Zad e 1 (.slice A n c) n xs)):Zab w w.heap.size 1 A n xs:=by
 obtain⟨h1,h2⟩:=h.row hi
 refine⟨h1,fun hn=> ?_⟩
 rcases h2 with⟨_,h3⟩ | ⟨g,cap,cur,hv,_,hg,hc,_,hcs,ht⟩
 ·omega
 ·cases hv
  refine⟨⟨g,0,none⟩,rfl,?_,fun j u hj=> ?_⟩
  ·exact(Array.getElem?_eq_some_iff.1 hg).1
  ·have hj2:=(List.getElem?_eq_some_iff.1 hj).1
   rw[<-ht]at hj
   rw[List.getElem?_take]at hj
   have e1:(Addr.add ⟨g,0,none⟩ j)=⟨g,j,none⟩:=by
    unfold Addr.add
    by_cases h0:j=0
    ·rw[if_pos h0,h0]
    ·rw[if_neg h0];simp
   rw[e1]
   unfold World.cell?
   rw[hg]
   split at hj
   ·simpa using hj
   ·cases hj
theorem csay {w:World}{F:List Zae}(f:Frm)(hE:Zeq f=0)(A:Option Addr)(c:Nat)(hr:Zab w w.heap.size 1 A f.body.length (bs f.body))(K:Nat){d0 d1 d2 d3 d5 d6 d7 d8 d9 d10 d11 d12 d13:Value}{A0:Option Addr}{n0 k0:Nat}{xs:List UInt8}(hn:n0<=100000)
  (h:Sep w (Zaa K 126 #[d0,d1,d2,d3,.slice A0 n0 k0,d5,d6,d7,d8,d9,d10,d11,d12,d13]::Zad 5 1 (.slice A0 n0 k0) n0 (bs xs)::F)):
  CA 55 #[.pointer (some ⟨K,0,none⟩),.int .i64 f.K,.int .i64 f.F,.int .i64 f.S,.slice A f.body.length c] w fun e w'=>e=.returned (.tuple #[])/\∃A1 k1,Sep w' (Zaa K 126 #[d0,d1,d2,d3,.slice A1 (n0+(Zbh f).length) k1,d5,d6,d7,d8,d9,d10,d11,d12,d13]::Zad 5 1 (.slice A1 (n0+(Zbh f).length) k1) (n0+(Zbh f).length) (bs (xs++Zbh f))::F):=by
 have hfl:=Zbu hE
 have hm:=(Zgm hE).2
 have H:=Hd h
 have HR:=Hd hr
 have HE:=Hd hE
 have HFL:=Hd hfl
 clear h hr hE hfl
 go_enter func55,ntmps55
 go_wp2_with fail
 refine(Zu0 f A c HE.out _ HR.out).mono ?_
 rintro e w1 ⟨A1,c1,rfl,hg,hown⟩
 have h1:=H.out.below hg.2.2
 have hK:=h1.at_ (i:=0) rfl
 have H1:=Hd h1
 have HG:=Hd hg.2.1
 clear h1 hg hown
 rw[HE.out,Zal]
 go_wp2_with (at_builtin;refine Zcl (i:=1) rfl _ _ rfl _ n0 (bs xs) H1.out rfl rfl _ _ _ _ HG.out rfl (by have:=HFL.out;omega) ?_;intro A2 c2 w2 h2 _;have hK2:=h2.at_ (i:=0) rfl;have H2:=Hd h2;clear h2 hK)
 refine bodyPost_end (results_none rfl _ _ _) rfl ?_
 refine⟨rfl,A2,c2,?_⟩
 have h3:=H2.out.set_ (i:=0) rfl 4 (.slice A2 (n0+(Zbh f).length) c2)
 rw[Za1]
 exact h3
theorem nsay {w:World}{F:List Zae}(f:Frm)(hE:Zeq f=0)(A:Option Addr)(c:Nat)(hr:Zab w w.heap.size 1 A f.body.length (bs f.body))(K:Nat){d0 d1 d2 d3 d4 d6 d7 d8 d9 d10 d11 d12 d13:Value}{A0:Option Addr}{n0 k0:Nat}{xs:List UInt8}(hn:n0<=100000)
  (h:Sep w (Zaa K 200 #[d0,d1,d2,d3,d4,.slice A0 n0 k0,d6,d7,d8,d9,d10,d11,d12,d13]::Zad 5 1 (.slice A0 n0 k0) n0 (bs xs)::F)):
  CA 102 #[.pointer (some ⟨K,0,none⟩),.int .i64 f.K,.int .i64 f.F,.int .i64 f.S,.slice A f.body.length c] w fun e w'=>e=.returned (.tuple #[])/\∃A1 k1,Sep w' (Zaa K 200 #[d0,d1,d2,d3,d4,.slice A1 (n0+(Zbh f).length) k1,d6,d7,d8,d9,d10,d11,d12,d13]::Zad 5 1 (.slice A1 (n0+(Zbh f).length) k1) (n0+(Zbh f).length) (bs (xs++Zbh f))::F):=by
 have hfl:=Zbu hE
 have hm:=(Zgm hE).2
 have H:=Hd h
 have HR:=Hd hr
 have HE:=Hd hE
 have HFL:=Hd hfl
 clear h hr hE hfl
 go_enter func102,ntmps102
 go_wp2_with fail
 refine(Zu0 f A c HE.out _ HR.out).mono ?_
 rintro e w1 ⟨A1,c1,rfl,hg,hown⟩
 have h1:=H.out.below hg.2.2
 have hK:=h1.at_ (i:=0) rfl
 have H1:=Hd h1
 have HG:=Hd hg.2.1
 clear h1 hg hown
 rw[HE.out,Zal]
 go_wp2_with (at_builtin;refine Zcl (i:=1) rfl _ _ rfl _ n0 (bs xs) H1.out rfl rfl _ _ _ _ HG.out rfl (by have:=HFL.out;omega) ?_;intro A2 c2 w2 h2 _;have hK2:=h2.at_ (i:=0) rfl;have H2:=Hd h2;clear h2 hK)
 refine bodyPost_end (results_none rfl _ _ _) rfl ?_
 refine⟨rfl,A2,c2,?_⟩
 have h3:=H2.out.set_ (i:=0) rfl 5 (.slice A2 (n0+(Zbh f).length) c2)
 rw[Za1]
 exact h3
section
variable {w w':World} {M N F:List Zae}
theorem Sep.swap (h:Sep w (M++F)){S:Nat->Prop}(hk:Zax S w w')(hS:∀k,S k->∃a∈M,a.own k)(hN:Sep w' N)(hsub:∀b∈N,∀k,b.own k->(∃a∈M,a.own k)∨w.heap.size<=k):Sep w' (N++F):=by
 obtain⟨h1,h2⟩:=h
 obtain⟨h3,h4,h5⟩:=List.pairwise_append.1 h2
 refine⟨fun a ha=> ?_,List.pairwise_append.2 ⟨hN.apart,h4,fun b hb a ha k hk1 hk2=> ?_⟩⟩
 ·rcases List.mem_append.1 ha with ha | ha
  ·exact hN.all a ha
  ·have h6:=h1 a (List.mem_append.2 (.inr ha))
   refine⟨a.loc S w w' hk (fun k hk1 hk2=> ?_) h6.2 h6.1,fun k hk1=>Nat.lt_of_lt_of_le (h6.2 k hk1) hk.size⟩
   obtain⟨b,hb,hbk⟩:=hS k hk2
   exact h5 b hb a ha k hbk hk1
 ·rcases hsub b hb k hk1 with⟨d,hd,hdk⟩ | h6
  ·exact h5 d hd a ha k hdk hk2
  ·have:=(h1 a (List.mem_append.2 (.inr ha))).2 k hk2
   omega
theorem Sep.nil_ :Sep w []:=⟨fun _ h=>(by cases h),List.Pairwise.nil⟩
theorem Sep.cons_ {a:Zae}(h:Sep w N)(h1:a.holds w)(h2:∀k,a.own k->k < w.heap.size)(h3:∀b∈N,∀k,a.own k->¬b.own k):Sep w (a::N):=
 ⟨fun c hc=>(List.mem_cons.1 hc).elim (fun e=>by subst e;exact⟨h1,h2⟩) (h.all c),List.pairwise_cons.2 ⟨h3,h.apart⟩⟩
end
def Zbw (g:Nat)(A:Option Addr)(c:Nat)(xs:List Fld)(mx:Nat):Zae:=⟨Zhs g A,fun w=>Tab w g A c xs mx,fun _ _ _ hk hS _ h=>h.keep hk hS⟩
def Zai (g h:Nat):Array Value:= #[.pointer (some ⟨g,0,none⟩),.pointer (some ⟨h,0,none⟩),.int .i64 4096,.slice none 0 0,.bool false]
theorem Zpj {w:World}{F:List Zae}(hF:Sep w F):
  CA 9 #[.int .i64 4096] w fun e w'=>∃C g h,e=.returned (.tuple #[.pointer (some ⟨C,0,none⟩),.nilIface])/\Sep w' (Zaa C 93 (Zai g h)::Zbw g none 0 [] 4096::Zbw h none 0 [] 4096::F)/\Below w.heap.size w w':=by
 refine(cnew_yes 4096 (Nat.le_refl _) w).mono ?_
 rintro e w' ⟨C,g,h,rfl,hO,hI,hb,hC,hg,hh,h1,h2⟩
 refine⟨C,g,h,rfl,?_,hb⟩
 have hn:=hO.ne.1
 have hlO:=hO.lt
 have hlI:=hI.lt
 have hT:Sep w' [Zaa C 93 (Zai g h),Zbw g none 0 [] 4096,Zbw h none 0 [] 4096]:=by
  refine((Sep.nil_.cons_ (a:=Zbw h none 0 [] 4096) hI.tab (fun k hk=>hlI k (.inr hk)) (fun _ h=>by cases h)).cons_ (a:=Zbw g none 0 [] 4096) hO.tab (fun k hk=>hlO k (.inr (.inl hk))) ?_).cons_ (a:=Zaa C _ _) hO.blk (fun k hk=>hlO k (.inl hk)) ?_
  ·intro b hb2 k hk hk2
   simp only[List.mem_singleton]at hb2
   subst hb2
   rcases hk with rfl | ⟨_,h3,_⟩
   ·rcases hk2 with h3 | ⟨_,h3,_⟩
    ·exact h1 h3.symm
    ·cases h3
   ·cases h3
  ·intro b hb2 k hk hk2
   have hk:k=C:=hk
   subst hk
   simp only[List.mem_cons,List.not_mem_nil,or_false]at hb2
   rcases hb2 with rfl | rfl
   ·exact hn hk2
   ·rcases hk2 with h3 | ⟨_,h3,_⟩
    ·exact h2 h3.symm
    ·cases h3
 refine Sep.swap (M:=[]) (N:=[_,_,_]) hF (Zax.of_below (S:=fun _=>False) hb) (fun _ h=>h.elim) hT ?_
 intro b hb2 k hk
 right
 simp only[List.mem_cons,List.not_mem_nil,or_false]at hb2
 rcases hb2 with rfl | rfl | rfl
 ·rw[show k=C from hk];exact hC
 ·rcases hk with h3 | ⟨_,h3,_⟩
  ·omega
  ·cases h3
 ·rcases hk with h3 | ⟨_,h3,_⟩
  ·omega
  ·cases h3
theorem Zmp {w:World}{C g h:Nat}{A:Option Addr}{c:Nat}{xs:List Fld}{F:List Zae}(H:Sep w (Zaa C 93 (Zai g h)::Zbw g A c xs 4096::F))(l:List Fld)(hf:∀f∈l,fOk f)(hm:l.length<=140737488355328)(hE:Ze7 l=0)
  (LA:Option Addr) (n lc i:Nat) (hn:n=l.length) (hi:F[i]? =some (Zad 41 2 (.slice LA n lc) n (fvs l))):
  CA 10 #[.pointer (some ⟨C,0,none⟩),.slice LA n lc] w fun e w'=>∃A' n' c',e=.returned (.tuple #[.slice A' n' c',.nilIface])/\n'=(Za0 4096 xs l).length/\Sep w' (Zad 5 1 (.slice A' n' c') n' (bs (Za0 4096 xs l))::Zaa C 93 (Zai g h)::F):=by
 have hO:Znd w C g A c (.slice none 0 0) xs 4096 [] (.pointer (some ⟨h,0,none⟩),.int .i64 4096,.bool false):=⟨H.get (i:=0) rfl,H.get (i:=1) rfl,World.ownsRow_nil _ _ _ _⟩
 subst hn
 refine(Zq2 hO (by simp) (fun _=>rfl) (by simp) l hf hm hE LA _ lc rfl (Zab.of_own (H.row (i:=i+2) hi)) ?_).mono ?_
 ·intro ad e _ ho
  have h1:(Zad 41 2 (.slice LA l.length lc) l.length (fvs l)).own ad.block:=by rw[e];rfl
  rcases ho with h2 | h2 | h2
  ·exact H.ne (i:=i+2) (j:=0) (by omega) hi rfl h1 h2
  ·exact H.ne (i:=i+2) (j:=1) (by omega) hi rfl h1 h2
  ·cases h2
 ·rintro e w' ⟨A',n',c',rfl,rfl,hc,hrd,hfr,A3,c3,h1,h2,h3,h4,h5⟩
  have e0:Zdq []++Za0 4096 xs l=Za0 4096 xs l:=rfl
  rw[e0]at*
  refine⟨A',_,c',rfl,rfl,?_⟩
  have hT:Sep w' [Zad 5 1 (.slice A' (Za0 4096 xs l).length c') (Za0 4096 xs l).length (bs (Za0 4096 xs l)),Zaa C 93 (Zai g h)]:=by
   refine(Sep.nil_.cons_ (a:=Zaa C _ _) h1.blk (fun k hk=>h1.lt k (.inl hk)) (fun _ h=>by cases h)).cons_ h5 (fun k hk=>(h5.lt k hk).2) ?_
   intro b hb k hk hk2
   simp only[List.mem_singleton]at hb
   subst hb
   cases hA:A' with
   | none=>rw[hA]at hk;cases hk
   | some ad=>
    rw[hA]at hk
    have hk:some ad.block=some k:=hk
    injection hk with hk
    exact h4 ad hA (.inl (by rw[hk];exact hk2))
  refine Sep.swap (M:=[_,_]) (N:=[_,_]) H h2 ?_ hT ?_
  ·rintro k (h6 | h6 | h6)
   ·exact⟨Zaa C 93 (Zai g h),by simp,h6⟩
   ·exact⟨Zbw g A c xs 4096,by simp,h6⟩
   ·cases h6
  ·intro b hb k hk
   simp only[List.mem_cons,List.not_mem_nil,or_false]at hb
   rcases hb with rfl | rfl
   ·right
    cases hA:A' with
    | none=>rw[hA]at hk;cases hk
    | some ad=>
     rw[hA]at hk
     have hk:some ad.block=some k:=hk
     injection hk with hk
     have:=(hfr ad hA).1
     omega
   ·exact .inl ⟨_,by simp,hk⟩
theorem Zmq {w:World}{C g h:Nat}{A:Option Addr}{c:Nat}{ys:List Fld}{F:List Zae}(H:Sep w (Zaa C 93 (Zai g h)::Zbw h A c ys 4096::F))(b:List UInt8)(LA:Option Addr)(n lc i:Nat)(hn:n=b.length)(h0:0 < n)(hm:n<=140737488355328)
  (hi:F[i]? =some (Zad 5 1 (.slice LA n lc) n (bs b))) (ys':List Fld) (my':Nat) (L:List Fld) (hH:heard 4096 ys 4096 [] b=⟨0,ys',my',L,0⟩):
  CA 11 #[.pointer (some ⟨C,0,none⟩),.slice LA n lc] w fun e w'=>∃A2 n2 c2,e=.returned (.tuple #[.slice A2 n2 c2,.nilIface])/\n2=L.length/\Sep w' (Zad 41 2 (.slice A2 n2 c2) n2 (fvs L)::Zaa C 93 (Zai g h)::F):=by
 have hI:CIn w C h A c ys 4096 4096 false (.pointer (some ⟨g,0,none⟩),.slice none 0 0):=⟨H.get (i:=0) rfl,H.get (i:=1) rfl⟩
 subst hn
 have hcap:b.length<=lc:=by
  obtain⟨_,⟨_,h1⟩ | ⟨_,_,_,h1,_,_,h2,_⟩⟩:=H.row (i:=i+2) hi
  ·omega
  ·cases h1;exact h2
 have hB:∃B,B < w.heap.size/\¬Zmb C h A B/\∀ad,LA=some ad->ad.block=B:=by
  cases hA:LA with
  | none=>
   obtain⟨_,⟨_,h1⟩ | ⟨_,_,_,h1,_⟩⟩:=H.row (i:=i+2) hi
   ·omega
   ·rw[hA]at h1;cases h1
  | some ad=>
   have h1:(Zad 5 1 (.slice LA b.length lc) b.length (bs b)).own ad.block:=by rw[hA];rfl
   refine⟨ad.block,H.lt (i:=i+2) hi h1,?_,fun a e=>by cases e;rfl⟩
   rintro(h2 | h2)
   ·exact H.ne (i:=i+2) (j:=0) (by omega) hi rfl h1 h2
   ·exact H.ne (i:=i+2) (j:=1) (by omega) hi rfl h1 h2
 obtain⟨B,hB1,hB2,hB3⟩:=hB
 refine(Zm8 hI (Nat.le_refl _) b LA _ lc rfl hcap hm B hB1 hB2 (Zab.of_own (H.row (i:=i+2) hi)) hB3 ys' my' L hH).mono ?_
 rintro e w' ⟨A2,n2,c2,rfl,rfl,hown,A',c',h1,h2,h3⟩
 refine⟨A2,_,c2,rfl,rfl,?_⟩
 have hT:Sep w' [Zad 41 2 (.slice A2 L.length c2) L.length (fvs L),Zaa C 93 (Zai g h)]:=by
  refine(Sep.nil_.cons_ (a:=Zaa C _ _) h1.blk (fun k hk=>h1.lt k (.inl hk)) (fun _ h=>by cases h)).cons_ (a:=Zad _ _ _ _ _) (Zdk hown (Nat.zero_le _)) (fun k hk=>(hown.lt k hk).2) ?_
  intro b hb k hk hk2
  simp only[List.mem_singleton]at hb
  subst hb
  have h4:=(hown.lt k hk).1
  have h5:=H.lt (i:=0) rfl (k:=k) hk2
  omega
 refine Sep.swap (M:=[_,_]) (N:=[_,_]) H h2 ?_ hT ?_
 ·rintro k (h6 | h6)
  ·exact⟨Zaa C 93 (Zai g h),by simp,h6⟩
  ·exact⟨Zbw h A c ys 4096,by simp,h6⟩
 ·intro b hb k hk
  simp only[List.mem_cons,List.not_mem_nil,or_false]at hb
  rcases hb with rfl | rfl
  ·exact .inr (hown.lt k hk).1
  ·exact .inl ⟨_,by simp,hk⟩
theorem fl_new (n:Nat)(hn:n<=2147483647)(w:World):
  CA 103 #[.int .i64 (n:Int)] w fun e w'=>e=.returned (.tuple #[.pointer (some ⟨w.heap.size,0,none⟩),.nilIface])/\w'=w.alloc (.cells #[.int .i64 (n:Int)] 123):=by
 have h0:(0:Int)<=((n:Nat):Int):=by omega
 have h1:((n:Nat):Int)<=2147483647:=by omega
 go_enter func103,ntmps103
 go_wp2
 go_ret2
 exact⟨rfl,rfl⟩
theorem Ze0 (p:Addr)(n:Int)(w:World)(hp:w.cell? p=some (.int .i64 n)):
  CA 106 #[.pointer (some p)] w fun e w'=>e=.returned (.int .i64 n)/\w'=w:=by
 obtain⟨b,o,s⟩:=p
 have hs:=World.cell?_spot hp
 simp only at hs
 subst hs
 have hl:=World.block_lt_of_cell? w _ hp
 go_enter func106,ntmps106
 go_wp2
 go_ret
 exact⟨rfl,rfl⟩
theorem fl_take (b o n k:Nat)(hk:k<=n)(hn:n<=2147483647)(w:World)(hp:w.cell? ⟨b,o,none⟩=some (.int .i64 (n:Int)))(hf:w.frozen? ⟨b,o,none⟩=false):
  CA 107 #[.pointer (some ⟨b,o,none⟩),.int .i64 (k:Int)] w fun e w'=>e=.returned .nilIface/\w'=w.setCell ⟨b,o,none⟩ (.int .i64 ((n-k:Nat):Int)):=by
 have hl:=World.block_lt_of_cell? w _ hp
 have h0:¬((k:Nat):Int) < 0:=by omega
 have h1:¬((n:Nat):Int) < ((k:Nat):Int):=by omega
 have h3:¬n < k:=by omega
 have h2:wrap64 (((n:Nat):Int)-((k:Nat):Int))=((n-k:Nat):Int):=by unfold wrap64;omega
 have h4:((n:Nat):Int)-((k:Nat):Int)=((n-k:Nat):Int):=by omega
 go_enter func107,ntmps107
 go_wp2
 go_ret
 exact⟨rfl,by simp[h2,h4]⟩
theorem fl_due (a:Nat)(h:1000<=a)(ha:a<=2147483647)(w:World):
  CA 284 #[.int .i64 (a:Int),.int .i64 2000] w fun e w'=>e=.returned (.int .i64 0)/\w'=w:=by
 have h0:¬((a:Nat):Int) < 1000:=by omega
 go_enter func284,ntmps284
 go_wp2
 go_ret
 exact⟨rfl,rfl⟩
theorem Zpg (w:World):CA 275 #[.int .i64 0,.int .i64 1,.bool false] w fun e w'=>e=.returned (.tuple #[.int .i64 1,.int .i64 0,.bool false])/\w'=w:=by
 go_enter func275,ntmps275
 go_wp2
 go_ret3
 exact⟨rfl,rfl⟩
theorem Zjj (w:World):CA 275 #[.int .i64 1,.int .i64 0,.bool true] w fun e w'=>e=.returned (.tuple #[.int .i64 2,.int .i64 0,.bool false])/\w'=w:=by
 go_enter func275,ntmps275
 go_wp2
 go_ret3
 exact⟨rfl,rfl⟩
theorem Zfq {P:Program}{fn:Func}{p:Tmp}{ty:TypeId}(h:fn.results= #[.cell p ty])(tmps:Array Value)(w:World)(g:Nat)(t:TypeId)(cs:Array Value)(d:TypeDesc)
  (hp:tmps.getD p undef=.pointer (some ⟨g,0,none⟩)) (hg:Blk w g t cs)
  (hu:P.underlying ty=some d) (hd:(match d with | .struct _ | .array _ _=>true | _=>false)=true) (hi:(P.info? ty).map (·.size)=some cs.size):
  (results fn tmps).run P w=.ok (.agg cs) w:=by
 have hp':tmps[p]?.getD undef=.pointer (some ⟨g,0,none⟩):=by simpa using hp
 simp[results,h,hp',asAddr,run_loadVar_row w g t ty cs (0,0) d hg hu hd hi]
theorem Ztr {a:Value}:(prog.info? 123).map (·.size)=some (#[a]:Array Value).size:=by kernel_rfl
theorem Zs3 (w:World):
  CA 54 #[.int .i64 2000] w fun e w'=>e=.returned (.agg #[.int .i64 2000])/\Below w.heap.size w w':=by
 have hb:=(Below.refl w.heap.size w).alloc (Nat.le_refl _) (.cells #[.int .i64 2000] 123)
 have hb2:=hb.alloc hb.size (.cells #[.int .i64 2000] 123)
 have HB:=Hd hb2
 clear hb hb2
 go_enter func54,ntmps54
 go_wp2_with (go_at_call 103;refine(fl_new 2000 (by decide) _).mono ?_;rintro e w' ⟨rfl,rfl⟩)
 refine bodyPost_ret (Zfq rfl _ _ w.heap.size _ _ _ rfl ((Blk.new w _ _).alloc _) underlying123 rfl Ztr) rfl ?_
 exact⟨rfl,HB.out⟩
theorem Zi9 (w:World):
  CA 101 #[.int .i64 2000] w fun e w'=>e=.returned (.agg #[.int .i64 2000])/\Below w.heap.size w w':=by
 have hb:=(Below.refl w.heap.size w).alloc (Nat.le_refl _) (.cells #[.int .i64 2000] 123)
 have hb2:=hb.alloc hb.size (.cells #[.int .i64 2000] 123)
 have HB:=Hd hb2
 clear hb hb2
 go_enter func101,ntmps101
 go_wp2_with (go_at_call 103;refine(fl_new 2000 (by decide) _).mono ?_;rintro e w' ⟨rfl,rfl⟩)
 refine bodyPost_ret (Zfq rfl _ _ w.heap.size _ _ _ rfl ((Blk.new w _ _).alloc _) underlying123 rfl Ztr) rfl ?_
 exact⟨rfl,HB.out⟩
theorem st_new {w:World}{F:List Zae}(h:Sep w F):
  CA 100 #[] w fun e w'=>∃S M,e=.returned (.pointer (some ⟨S,0,none⟩))/\Sep w' (Zaa S 254 #[.map (some M),.int .i64 0]::Zak M #[] 0::F):=by
 have h1:=h.newMap.newBlk 254 #[.map (some w.heap.size),.int .i64 0]
 simp only[World.size_alloc]at h1
 have H:=Hd h1
 clear h1
 have q0:=fun w t=>run_makeMap_plain (P:=prog) w t
 go_enter func100,ntmps100
 go_wp2
 go_ret
 exact⟨_,_,rfl,H.out⟩
theorem li_new {w:World}{F:List Zae}(h:Sep w F):
  CA 50 #[.int .i64 10,.int .i64 10] w fun e w'=>∃S M M',e=.returned (.tuple #[.pointer (some ⟨S,0,none⟩),.nilIface])/\Sep w' (Zaa S 193 #[.int .i64 10,.int .i64 10,.map (some M),.map (some M')]::Zak M' #[] 0::Zak M #[] 0::F):=by
 have h1:=h.newMap.newMap.newBlk 193 #[.int .i64 10,.int .i64 10,.map (some w.heap.size),.map (some (w.heap.size+1))]
 simp only[World.size_alloc]at h1
 have H:=Hd h1
 clear h1
 have q0:=fun w t=>run_makeMap_plain (P:=prog) w t
 go_enter func50,ntmps50
 go_wp2
 go_ret2
 exact⟨_,_,_,rfl,H.out⟩
theorem Zyf {w:World}{F:List Zae}(h:Sep w F):
  CA 53 #[] w fun e w'=>∃S,e=.returned (.pointer (some ⟨S,0,none⟩))/\Sep w' (Zaa S 203 #[.slice none 0 0]::F):=by
 have H:=Hd (h.newBlk 203 #[.slice none 0 0])
 go_enter func53,ntmps53
 go_wp2
 go_ret
 exact⟨_,rfl,H.out⟩
def setF :Frm:=⟨4,0,0,[]⟩
def Zf6 :List UInt8:=[0,0,0,4,0,0,0,0,0]
theorem Zi3 :Zeq setF=0/\Zbh setF=Zf6:=by decide
def Zau (C M:Nat)(ord inn out:Value)(win:Int)(last:Int)(part:Value)(on:Int)(ends:Bool):Array Value:=
 #[.pointer (some ⟨C,0,none⟩),.map (some M),ord,inn,out,.int .i64 win,.int .i64 2000,.int .i64 last,part,.int .i64 on,.bool ends,.int .i64 0,.bool false,.bool false]
theorem Z08 {w:World}{F:List Zae}(h:Sep w F):
  CA 14 #[] w fun e w'=>∃K M C g h A c,e=.returned (.pointer (some ⟨K,0,none⟩))/\Sep w' (Zaa K 126 (Zau C M (.slice none 0 0) (.slice none 0 0) (.slice A 9 c) 2000 (-1) (.slice none 0 0) 0 false)::Zad 5 1 (.slice A 9 c) 9 (bs Zf6)::Zak M #[] 0::Zaa C 93 (Zai g h)::Zbw g none 0 [] 4096::Zbw h none 0 [] 4096::F):=by
 have H:=Hd h
 have q0:=fun w t=>run_makeMap_plain (P:=prog) w t
 go_enter func14,ntmps14
 go_wp2_with fail
 refine(Zpj H.out).mono ?_
 rintro e w1 ⟨C,g,k,rfl,h1,hb1⟩
 have H1:=Hd h1
 clear h1 hb1
 go_wp2_with fail
 have h2:=H1.out.newMap
 have H2:=Hd h2
 clear h2
 refine(Zs3 _).mono ?_
 rintro e w3 ⟨rfl,hb⟩
 have h3:=(H2.out.below hb).newRow (e:=5) (size:=1) (Below.refl _ _) (World.ownsRow_nil _ _ _ _)
 have H3:=Hd (h3.newBlk 126 (Zau C w1.heap.size (.slice none 0 0) (.slice none 0 0) (.slice none 0 0) 2000 (-1) (.slice none 0 0) 0 false))
 clear h3 hb
 go_wp2_with (go_at_call 55;refine(csay setF Zi3.1 none 0 Zab.none_ _ (xs:=[]) (by decide) H3.out).mono ?_;rintro e w4 ⟨rfl,A,c,h4⟩;rw[Zi3.2]at h4;have H4:=Hd h4;clear h4)
 go_ret
 exact⟨_,_,_,_,_,A,c,rfl,H4.out⟩
def Zaf (C S M:Nat)(ord inn out:Value)(iw ow:Int)(un:Int)(began:Bool)(part evs:Value):Array Value:=
 #[.pointer (some ⟨C,0,none⟩),.pointer (some ⟨S,0,none⟩),.map (some M),ord,inn,out,.int .i64 iw,.int .i64 ow,.int .i64 2000,.int .i64 un,.bool began,.bool false,part,evs]
theorem Z01 {w:World}{F:List Zae}(h:Sep w F):
  CA 51 #[] w fun e w'=>∃K S MS M C g h A c,e=.returned (.pointer (some ⟨K,0,none⟩))/\Sep w' (Zaa K 200 (Zaf C S M (.slice none 0 0) (.slice none 0 0) (.slice A 9 c) 2000 2000 0 false (.pointer none) (.slice none 0 0))::Zad 5 1 (.slice A 9 c) 9 (bs Zf6)::Zak M #[] 0::Zaa S 254 #[.map (some MS),.int .i64 0]::Zak MS #[] 0::Zaa C 93 (Zai g h)::Zbw g none 0 [] 4096::Zbw h none 0 [] 4096::F):=by
 have H:=Hd h
 have q0:=fun w t=>run_makeMap_plain (P:=prog) w t
 go_enter func51,ntmps51
 go_wp2_with fail
 refine(Zpj H.out).mono ?_
 rintro e w1 ⟨C,g,k,rfl,h1,hb1⟩
 have H1:=Hd h1
 clear h1 hb1
 go_wp2_with fail
 refine(st_new H1.out).mono ?_
 rintro e w2 ⟨S,MS,rfl,h2⟩
 have H2:=Hd h2.newMap
 clear h2
 go_wp2_with fail
 refine(Zi9 _).mono ?_
 rintro e w3 ⟨rfl,hb⟩
 have H3:=Hd (H2.out.below hb)
 clear hb
 go_wp2_with fail
 refine(Zi9 _).mono ?_
 rintro e w4 ⟨rfl,hb⟩
 have h4:=(H3.out.below hb).newRow (e:=5) (size:=1) (Below.refl _ _) (World.ownsRow_nil _ _ _ _)
 have H4:=Hd (h4.newBlk 200 (Zaf C S w2.heap.size (.slice none 0 0) (.slice none 0 0) (.slice none 0 0) 2000 2000 0 false (.pointer none) (.slice none 0 0)))
 clear h4 hb
 go_wp2_with (go_at_call 102;refine(nsay setF Zi3.1 none 0 Zab.none_ _ (xs:=[]) (by decide) H4.out).mono ?_;rintro e w5 ⟨rfl,A,c,h5⟩;rw[Zi3.2]at h5;have H5:=Hd h5;clear h5)
 go_ret
 exact⟨_,_,_,_,_,_,_,A,c,rfl,H5.out⟩
theorem Blk.reads_ {w:World}{g size n:Nat}{e:TypeId}{cs:Array Value}(h:Blk w g e cs)(hs:cs.size=n*size):Zab w w.heap.size size (some ⟨g,0,none⟩) n cs.toList:=by
 refine⟨by simpa using hs,fun _=>⟨_,rfl,h.lt,fun j u hj=> ?_⟩⟩
 rw[Addr.add_lit,Nat.zero_add,h.cell j]
 simpa using hj
theorem Zck {ops:Array Oper}{rest:List Oper}{o:Oper}{a:Act}{Q:Exit->Act->World->Prop}{w:World}{L:List Zae}{i j:Nat}(hgd:o.guard=none)(s x:Operand)(ts e:TypeId)
  (ho:o.op=.call {callee:=.builtin .append,args:= #[s,x],argTypes:= #[ts,ts]})
  (hu:prog.underlying ts=some (.slice e)) {z0:Value} {size bytes:Nat} (hinf:(prog.info? e).map (fun i=>(i.zero,i.size,i.bytes))=some (some z0,size,bytes)) (hzs:z0.cells.size=size) (hsz:0 < size) (hby:bytes<=1000)
  (v:Value) (n:Nat) (xs:List Value) (h0:Sep w L) (hi:L[i]? =some (Zad e size v n xs)) (hs:a.eval s=v)
  (g:Nat) (cs:Array Value) (hj:L[j]? =some (Zaa g e cs)) (hcs:cs.size=size) (hone:∀u∈cs.toList,u.oneCell'=true) (hx:a.eval x=.slice (some ⟨g,0,none⟩) 1 1) (hn:n+1<=1000000)
  (h:∀A' c' w',Sep w' (L.set i (Zad e size (.slice A' (n+1) c') (n+1) (xs++cs.toList)))->w.grownBy w' v.ownBlock->wpList prog ops Q rest (a.put o.dst (.slice A' (n+1) c')) w'):wpList prog ops Q (o::rest) a w:=by
 obtain⟨i0,hi0,hz0,hz1,hz2⟩:=info_parts hinf
 have hb:(n+1)*bytes<=1000000*1000:=Nat.mul_le_mul hn hby
 refine Zah _ hgd s x ts ho 0 e i0 z0 size bytes hu hi0 hz0 hz1 hz2 hzs hsz v n xs hs (h0.row hi) w.heap.size (some ⟨g,0,none⟩) 1 1 cs.toList hx ((h0.blk hj).reads_ (by omega)) hone (by simp only[maxLen];omega) (by omega) (Nat.zero_le _) ?_
 intro v' w' hown' hg hloc
 obtain⟨A',c',rfl⟩:=Zas hown'
 refine h A' c' w' (h0.grow hi hown' hg ?_) hg
 rcases hloc with h1 | h1
 ·exact .inl h1
 ·right
  intro k hk
  rw[h1]at hk
  injection hk with hk
  omega
theorem Zjg {ops:Array Oper}{rest:List Oper}{o:Oper}{a:Act}{Q:Exit->Act->World->Prop}{w:World}{L:List Zae}{i:Nat}(hgd:o.guard=none)(s x:Operand)(ts e:TypeId)
  (ho:o.op=.call {callee:=.builtin .append,args:= #[s,x],argTypes:= #[ts,ts]})
  (hu:prog.underlying ts=some (.slice e)) {z0:Value} {size bytes:Nat} (hinf:(prog.info? e).map (fun i=>(i.zero,i.size,i.bytes))=some (some z0,size,bytes)) (hzs:z0.cells.size=size) (hsz:0 < size) (hby:bytes<=1000)
  (v:Value) (n:Nat) (xs:List Value) (h0:Sep w L) (hi:L[i]? =some (Zad e size v n xs)) (hs:a.eval s=v)
  (A:Option Addr) (m c:Nat) (news:List Value) (hr:Zab w w.heap.size size A m news) (hone:∀u∈news,u.oneCell'=true) (hx:a.eval x=.slice A m c) (hn:n+m<=1000000)
  (h:∀A' c' w',Sep w' (L.set i (Zad e size (.slice A' (n+m) c') (n+m) (xs++news)))->w.grownBy w' v.ownBlock->wpList prog ops Q rest (a.put o.dst (.slice A' (n+m) c')) w'):wpList prog ops Q (o::rest) a w:=by
 obtain⟨i0,hi0,hz0,hz1,hz2⟩:=info_parts hinf
 have hb:(n+m)*bytes<=1000000*1000:=Nat.mul_le_mul hn hby
 refine Zah _ hgd s x ts ho 0 e i0 z0 size bytes hu hi0 hz0 hz1 hz2 hzs hsz v n xs hs (h0.row hi) w.heap.size A m c news hx hr hone (by simp only[maxLen];omega) (by omega) (Nat.zero_le _) ?_
 intro v' w' hown' hg hloc
 obtain⟨A',c',rfl⟩:=Zas hown'
 refine h A' c' w' (h0.grow hi hown' hg ?_) hg
 rcases hloc with h1 | h1
 ·exact .inl h1
 ·right
  intro k hk
  rw[h1]at hk
  injection hk with hk
  omega
theorem Zcq {ops:Array Oper}{o:Oper}{a:Act}{K:Act->World->Prop}{Q:Exit->Act->World->Prop}{E:Prop}{w:World}{L:List Zae}{i:Nat}(hgd:o.guard=none)(s x:Operand)(ts e:TypeId)
  (ho:o.op=.call {callee:=.builtin .append,args:= #[s,x],argTypes:= #[ts,ts]})
  (hu:prog.underlying ts=some (.slice e)) {z0:Value} {size bytes:Nat} (hinf:(prog.info? e).map (fun i=>(i.zero,i.size,i.bytes))=some (some z0,size,bytes)) (hzs:z0.cells.size=size) (hsz:0 < size) (hby:bytes<=1000)
  (v:Value) (n:Nat) (xs:List Value) (h0:Sep w L) (hi:L[i]? =some (Zad e size v n xs)) (hs:a.eval s=v)
  (A:Option Addr) (m c:Nat) (news:List Value) (hr:Zab w w.heap.size size A m news) (hone:∀u∈news,u.oneCell'=true) (hx:a.eval x=.slice A m c) (hn:n+m<=1000000)
  (h:∀A' c' w',Sep w' (L.set i (Zad e size (.slice A' (n+m) c') (n+m) (xs++news)))->w.grownBy w' v.ownBlock->K (a.put o.dst (.slice A' (n+m) c')) w'):
  if Region.wanted o (yielded ops a.tmps)=true then Oper.wp prog o a w K Q else E:=by
 obtain⟨i0,hi0,hz0,hz1,hz2⟩:=info_parts hinf
 have hb:(n+m)*bytes<=1000000*1000:=Nat.mul_le_mul hn hby
 refine Zkm w hgd s x ts ho 0 e i0 z0 size bytes hu hi0 hz0 hz1 hz2 hzs hsz v n xs hs (h0.row hi) w.heap.size A m c news hx hr hone (by simp only[maxLen];omega) (by omega) (Nat.zero_le _) ?_
 intro v' w' hown' hg hloc
 obtain⟨A',c',rfl⟩:=Zas hown'
 refine h A' c' w' (h0.grow hi hown' hg ?_) hg
 rcases hloc with h1 | h1
 ·exact .inl h1
 ·right
  intro k hk
  rw[h1]at hk
  injection hk with hk
  omega
theorem Zgr {ops:Array Oper}{o:Oper}{a:Act}{K:Act->World->Prop}{Q:Exit->Act->World->Prop}{E:Prop}{w:World}{L:List Zae}{i j:Nat}(hgd:o.guard=none)(s x:Operand)(ts e:TypeId)
  (ho:o.op=.call {callee:=.builtin .append,args:= #[s,x],argTypes:= #[ts,ts]})
  (hu:prog.underlying ts=some (.slice e)) {z0:Value} {size bytes:Nat} (hinf:(prog.info? e).map (fun i=>(i.zero,i.size,i.bytes))=some (some z0,size,bytes)) (hzs:z0.cells.size=size) (hsz:0 < size) (hby:bytes<=1000)
  (v:Value) (n:Nat) (xs:List Value) (h0:Sep w L) (hi:L[i]? =some (Zad e size v n xs)) (hs:a.eval s=v)
  (g:Nat) (cs:Array Value) (hj:L[j]? =some (Zaa g e cs)) (hcs:cs.size=size) (hone:∀u∈cs.toList,u.oneCell'=true) (hx:a.eval x=.slice (some ⟨g,0,none⟩) 1 1) (hn:n+1<=1000000)
  (h:∀A' c' w',Sep w' (L.set i (Zad e size (.slice A' (n+1) c') (n+1) (xs++cs.toList)))->w.grownBy w' v.ownBlock->K (a.put o.dst (.slice A' (n+1) c')) w'):
  if Region.wanted o (yielded ops a.tmps)=true then Oper.wp prog o a w K Q else E:=
 Zcq hgd s x ts e ho hu hinf hzs hsz hby v n xs h0 hi hs (some ⟨g,0,none⟩) 1 1 cs.toList ((h0.blk hj).reads_ (by omega)) hone hx hn h
def entS (k:ByteArray)(v:Value):Array MapEntry:= #[⟨.string k,v,0⟩]
theorem li_ask {w:World}{F:List Zae}{Li LM LM':Nat}(h:Sep w (Zaa Li 193 #[.int .i64 10,.int .i64 10,.map (some LM),.map (some LM')]::Zak LM' #[] 0::Zak LM #[] 0::F)):
  CA 231 #[.pointer (some ⟨Li,0,none⟩),.string ⟨#[104]⟩,.int .i64 0,.int .i64 1] w fun e w'=>e=.returned (.tuple #[.bool true,.nilIface])/\Sep w' F:=by
 have kK:=h.at_ (i:=0) rfl
 have q1:=Zca (P:=prog) (t:=191) (k:=.string ⟨#[104]⟩) underlying191 underlying9 rfl (h.map_ (i:=1) rfl) (by rfl) (z:=.int .i64 0) (by kernel_rfl) false
 have q2:=Zca (P:=prog) (t:=190) (k:=.string ⟨#[104]⟩) underlying190 underlying9 rfl (h.map_ (i:=2) rfl) (by rfl) (z:=.pointer none) (by kernel_rfl) false
 have q3:=Zj2 (P:=prog) (t:=190) 3 underlying190 (h.map_ (i:=2) rfl)
 have h1:=h.newBlk 357 #[.int .i64 9,.int .i64 0]
 have kB:=h1.at_ (i:=1) rfl
 have u1:(Instr.mapUpdate 190 (.map (some LM)) (.string ⟨#[104]⟩) (.pointer (some ⟨w.heap.size,0,none⟩))).run prog (w.alloc (.cells #[.int .i64 9,.int .i64 0] 357))=.ok () (putM (w.alloc (.cells #[.int .i64 9,.int .i64 0] 357)) LM (entS ⟨#[104]⟩ (.pointer (some ⟨w.heap.size,0,none⟩))) 1):=
  Za9 (P:=prog) (t:=190) (k:=.string ⟨#[104]⟩) underlying190 underlying9 rfl (h1.map_ (i:=3) rfl) (by rfl) (.pointer (some ⟨w.heap.size,0,none⟩))
 have h2:=h1.putMap (i:=3) (c':=1) (es':=entS ⟨#[104]⟩ (.pointer (some ⟨w.heap.size,0,none⟩))) rfl
 have k2:=h2.at_ (i:=1) rfl
 have u2:=Za9 (P:=prog) (t:=191) (k:=.string ⟨#[104]⟩) underlying191 underlying9 rfl (h2.map_ (i:=2) rfl) (by rfl) (.int .i64 0)
 have h3:=h2.putMap (i:=2) (c':=0+1) (es':= #[].push ⟨.string ⟨#[104]⟩,.int .i64 0,0⟩) rfl
 have H:=Hd (show Sep _ F from h3.tail.tail.tail.tail)
 clear h h1 h2 h3
 go_enter func231,ntmps231
 go_wp2
 go_ret2
 exact⟨rfl,H.out⟩
end
section
open Go.RowKit Go.Shelf
attribute [local go_sem] Oper.semAt_some
def Zaq (len:Nat):Nat:=(len+1023) / 1024
def Zjd (Bs Bn:Nat)(W W':World):Prop:=W'.cell? ⟨Bs,0,none⟩=W.cell? ⟨Bs,0,none⟩/\W'.cell? ⟨Bn,0,none⟩=W.cell? ⟨Bn,0,none⟩
theorem Zjd.refl (Bs Bn:Nat)(W:World):Zjd Bs Bn W W:=⟨rfl,rfl⟩
theorem Zjd.trans {Bs Bn:Nat}{A B C:World}(h:Zjd Bs Bn A B)(k:Zjd Bs Bn B C):Zjd Bs Bn A C:=⟨k.1.trans h.1,k.2.trans h.2⟩
def Zui (b off len j:Nat):Value:=.slice (some ⟨b,off+1024*j,none⟩) (min 1024 (len-1024*j)) (min 1024 (len-1024*j))
theorem Z1c (F:Fence)(n:Nat)(h7:F.fn 159)(hro:F.round=none)(hn:1<=n)(l Bs Bn b off len cap:Nat)(hlc:len<=cap)(hm:len<=140737488355328)(J Jx:List (Fin (Zaq len))->World->Prop)
  (hJd:∀pre W,J pre W->J pre W.drew)
  (hY:∀pre (x:Fin (Zaq len)) W,J pre W->pre.length < Zaq len->YieldAt F (n-1) prog l #[Zui b off len x.1] W fun e W'=>
   (e=.returned (.bool true)/\J (pre++[x]) W'/\Zjd Bs Bn W W')∨(e=.returned (.bool false)/\Jx (pre++[x]) W'))
  (W:World) (hs:W.cell? ⟨Bs,0,none⟩=some (.slice (some ⟨b,off,none⟩) len cap)) (hn4:W.cell? ⟨Bn,0,none⟩=some (.int .i64 1024)) (h0:J [] W):
  CallsIn F n prog 159 #[.func (.yield l) #[] #[],.pointer (some ⟨Bs,0,none⟩),.pointer (some ⟨Bn,0,none⟩)] W fun e W'=>(∃v,e=.returned v)/\
   ((∃ys,ys.map Fin.val=List.range (Zaq len)/\J ys W')∨(∃pre,True/\Jx pre W')):=by
 refine callsIn_of_wp func159 rfl h7 ?_ hro
 simp only[ntmps159,List.size_toArray,List.length_cons,List.length_nil,Nat.reduceAdd,Nat.reduceSub,Array.replicate_succ,Array.replicate_zero,List.push_toArray,List.append_toArray,List.nil_append,List.cons_append]
 gi_wp2
 gi_loopw [4] (fun i wr=>∃k:Nat,k<=Zaq len/\i=.int .i64 ((1024*k:Nat):Int)/\Hid (∃pre,pre.map Fin.val=List.range k/\J pre wr)/\Hid (Zjd Bs Bn W wr))
  (fun i _=>1024*Zaq len-(intOf i).toNat)
 case atStart=>exact⟨0,Nat.zero_le _,rfl,⟨[],rfl,h0⟩,Zjd.refl _ _ _⟩
 case round=>
  obtain⟨k,hk,rfl,HJ,HX⟩:=hrel
  have s1:=HX.out.1.trans hs
  have s2:=HX.out.2.trans hn4
  obtain⟨pre,hpre,hJs⟩:=HJ.out
  have HPRE:=Hd hpre
  by_cases hlt:1024*k < len
  ·have hkp:k < Zaq len:=by unfold Zaq;omega
   obtain⟨fn,tmps,assign,body,hy,hR⟩:=hY pre ⟨k,hkp⟩ wr.drew (hJd _ _ hJs) (by have:=congrArg List.length hpre;simp at this;omega)
   have HRR:=Hd hR
   have i0:((1024*k:Nat):Int) < ((len:Nat):Int):=by omega
   have i1:(0:Int)<=((1024*k:Nat):Int):=by omega
   have i2:((1024*k:Nat):Int)<=((len:Nat):Int):=by omega
   have hmx:prog.follows .mixedOrders=true:=by kernel_rfl
   have HK:=Hd hkp
   have HKK:=Hd hk
   obtain⟨I,hI⟩:=exl (1024*k)
   unfold Zui at hy
   simp only at hy
   rw[hI]at i0 i1 i2 hlt hy⊢
   obtain⟨M,hM⟩:=exl (min 1024 (len-I))
   rw[hM]at hy
   have HY:=Hd hy
   have HI:=Hd hI
   have HM:=Hd hM
   clear hy hI hM hpre hk hR hJs
   gi_wp2
   gi_region
   all_goals gi_wp2
   all_goals
    have hy:=HY.out
    have hM:=HM.out
    first
     | (have e:((I:Int)+((len-I:Nat):Int)).toNat-I=M:=by omega
        rw[e])
     | (have e:((I:Int)+1024).toNat-I=M:=by omega
        rw[e])
    rw[hy]
    gi_wp2
    refine HRR.out.mono ?_
    rintro e W3 (⟨rfl,hJ3,hk3⟩ | ⟨rfl,hJx3⟩)
    ·have HW3:=Hd (HX.out.trans (show Zjd Bs Bn wr W3 from hk3))
     have HJ3:=Hd hJ3
     have t2:=HW3.out.2.trans hn4
     clear hJ3 hk3
     gi_wp2
     go_roundw
     case rel=>exact⟨k+1,HK.out,by rw[<-HI.out];go_num,⟨_,by rw[List.map_append,HPRE.out,List.range_succ];rfl,HJ3.out⟩,HW3⟩
     case measure=>have:=HK.out;have:=HI.out;simp[intOf];omega
    ·gi_wp2
     refine bodyPost_ret (results_none rfl _ _ _) rfl ?_
     exact⟨⟨_,rfl⟩,.inr ⟨_,trivial,hJx3⟩⟩
  ·have hke:k=Zaq len:=by unfold Zaq at hk⊢;omega
   have HKE:=Hd hke
   clear hke
   gi_wp2
   go_end0
   exact⟨⟨_,rfl⟩,.inl ⟨pre,by rw[HPRE.out,HKE.out],hJs⟩⟩
end
end Go.Proofs.YtbgnggkgmeagkaaGreatDoor
