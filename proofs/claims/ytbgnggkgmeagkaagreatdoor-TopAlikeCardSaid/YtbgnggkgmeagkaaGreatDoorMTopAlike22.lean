/-
  A part of the proof of TopAlike: each theorem states its own conditions.
-/
import Derived.Test.YtbgnggkgmeagkaaGreatDoorMTopAlike21
set_option linter.unusedSimpArgs false
set_option linter.unusedVariables false
set_option maxRecDepth 100000
set_option maxHeartbeats 16000000
namespace Go.Proofs.YtbgnggkgmeagkaaGreatDoor
open Go.Proofs.Tryz
section
open Go.RowKit Go.Shelf
def Zo5 (l:List (Nat×Nat)):Zae:=⟨fun k=>∃p∈l,k=p.1,fun w=>∀p∈l,Blk w p.1 357 #[.int .i64 ((p.2:Nat):Int),.int .i64 0],fun _ _ _ hk hS _ h p hp=>(h p hp).keep hk (hS p.1 ⟨p,hp,rfl⟩)⟩
theorem Sep.bktAdd {w:World}{F:List Zae}{l:List (Nat×Nat)}{Y m:Nat}(h:Sep w (Zaa Y 357 #[.int .i64 ((m:Nat):Int),.int .i64 0]::Zo5 l::F)):Sep w (Zo5 ((Y,m)::l)::F):=by
 have hA:=h.all
 have hP:=h.apart
 simp only[List.pairwise_cons]at hP
 obtain⟨p1,p2,p3⟩:=hP
 refine⟨fun a ha=> ?_,List.pairwise_cons.2 ⟨fun b hb k hk hk2=> ?_,p3⟩⟩
 ·rcases List.mem_cons.1 ha with rfl | ha
  ·refine⟨fun p hp=> ?_,?_⟩
   ·rcases List.mem_cons.1 hp with rfl | hp
    ·exact(hA _ (List.mem_cons_self)).1
    ·exact(hA _ (List.mem_cons_of_mem _ List.mem_cons_self)).1 p hp
   ·rintro k ⟨p,hp,rfl⟩
    rcases List.mem_cons.1 hp with rfl | hp
    ·exact(hA _ (List.mem_cons_self)).2 _ rfl
    ·exact(hA _ (List.mem_cons_of_mem _ List.mem_cons_self)).2 _ ⟨p,hp,rfl⟩
  ·exact hA a (List.mem_cons_of_mem _ (List.mem_cons_of_mem _ ha))
 ·obtain⟨p,hp,rfl⟩:=hk
  rcases List.mem_cons.1 hp with rfl | hp
  ·exact p1 b (List.mem_cons_of_mem _ hb) _ rfl hk2
  ·exact p2 b hb _ ⟨p,hp,rfl⟩ hk2
theorem vl_upd {w:World}{L:List Zae}{M j:Nat}{gl:List (List UInt8×Value)}{key:List UInt8}{v:Value}(h:Sep w L)(hj:L[j]? =some (Zan Zed M gl))(hv:Za8 gl key=none):∃es c,(Instr.mapUpdate 190 (.map (some M)) (.string ⟨key.toArray⟩) v).run prog w=.ok () (putM w M es c)/\Hid (Sep (putM w M es c) (L.set j (Zan Zed M (gl++[(key,v)])))):=by
 obtain⟨es,c,h1,h2⟩:=h.updN (P:=prog) (t:=190) strK hj underlying190 underlying9 hv v
 exact⟨es,c,h1,Hd h2⟩
theorem vl_upd2 {w:World}{L:List Zae}{M j:Nat}{gl:List (List UInt8×Value)}{key:List UInt8}{v:Value}(h:Sep w L)(hj:L[j]? =some (Zan Zed M gl))(hv:Za8 gl key=none):∃es c,(Instr.mapUpdate 191 (.map (some M)) (.string ⟨key.toArray⟩) v).run prog w=.ok () (putM w M es c)/\Hid (Sep (putM w M es c) (L.set j (Zan Zed M (gl++[(key,v)])))):=by
 obtain⟨es,c,h1,h2⟩:=h.updN (P:=prog) (t:=191) strK hj underlying191 underlying9 hv v
 exact⟨es,c,h1,Hd h2⟩
theorem vl_updO {w:World}{L:List Zae}{M j:Nat}{gl:List (List UInt8×Value)}{key:List UInt8}{v v0:Value}(h:Sep w L)(hj:L[j]? =some (Zan Zed M gl))(hv:Za8 gl key=some v0)(hd:(gl.map (·.1)).Nodup):∃es c,(Instr.mapUpdate 190 (.map (some M)) (.string ⟨key.toArray⟩) v).run prog w=.ok () (putM w M es c)/\Hid (Sep (putM w M es c) (L.set j (Zan Zed M (Ze3 gl key v)))):=by
 obtain⟨es,c,h1,h2⟩:=h.updO (P:=prog) (t:=190) strK hj underlying190 underlying9 hv hd v
 exact⟨es,c,h1,Hd h2⟩
theorem vl_updO2 {w:World}{L:List Zae}{M j:Nat}{gl:List (List UInt8×Value)}{key:List UInt8}{v v0:Value}(h:Sep w L)(hj:L[j]? =some (Zan Zed M gl))(hv:Za8 gl key=some v0)(hd:(gl.map (·.1)).Nodup):∃es c,(Instr.mapUpdate 191 (.map (some M)) (.string ⟨key.toArray⟩) v).run prog w=.ok () (putM w M es c)/\Hid (Sep (putM w M es c) (L.set j (Zan Zed M (Ze3 gl key v)))):=by
 obtain⟨es,c,h1,h2⟩:=h.updO (P:=prog) (t:=191) strK hj underlying191 underlying9 hv hd v
 exact⟨es,c,h1,Hd h2⟩
theorem vl_askN {w:World}{F:List Zae}{Li LM LM':Nat}{key:List UInt8}{sl ll:List (List UInt8×Value)}(hs:Za8 sl key=none)(hl:Za8 ll key=none)(hn:ll.length<=8)(h:Sep w (Zaa Li 193 #[.int .i64 5,.int .i64 5,.map (some LM),.map (some LM')]::Zan Zed LM' sl::Zan Zed LM ll::F)):
  CA 231 #[.pointer (some ⟨Li,0,none⟩),.string ⟨key.toArray⟩,.int .i64 0,.int .i64 1] w fun e w'=>e=.returned (.tuple #[.bool true,.nilIface])/\∃Y,Sep w' (Zaa Y 357 #[.int .i64 4,.int .i64 0]::Zaa Li 193 #[.int .i64 5,.int .i64 5,.map (some LM),.map (some LM')]::Zan Zed LM' (sl++[(key,.int .i64 0)])::Zan Zed LM (ll++[(key,ptr Y)])::F):=by
 have kK:=h.at_ (i:=0) rfl
 have q1:(Instr.lookup 191 (.map (some LM')) (.string ⟨key.toArray⟩) false).run prog w=.ok (.int .i64 0) w:=h.lookN (P:=prog) (t:=191) strK (i:=1) rfl underlying191 underlying9 hs (z:=.int .i64 0) (by kernel_rfl) false
 have q2:(Instr.lookup 190 (.map (some LM)) (.string ⟨key.toArray⟩) false).run prog w=.ok (.pointer none) w:=h.lookN (P:=prog) (t:=190) strK (i:=2) rfl underlying190 underlying9 hl (z:=.pointer none) (by kernel_rfl) false
 have q3:=h.lenL (P:=prog) (t:=190) (i:=2) rfl 3 underlying190
 have h0:¬(100:Int)<=((ll.length:Nat):Int):=by omega
 have h1:=h.newBlk 357 #[.int .i64 4,.int .i64 0]
 have kB:=h1.at_ (i:=1) rfl
 obtain⟨es1,c1,u1,H2⟩:=vl_upd (v:=ptr w.heap.size) h1 (j:=3) rfl hl
 have k2:=H2.out.at_ (i:=1) rfl
 obtain⟨es2,c2,u2,H3⟩:=vl_upd2 (v:=.int .i64 0) H2.out (j:=2) rfl hs
 unfold ptr at u1
 obtain⟨n,hnn⟩:∃n:Nat,ll.length=n:=⟨_,rfl⟩
 rw[hnn]at q3 h0
 clear h h1 H2 hs hl hn hnn
 go_enter func231,ntmps231
 go_wp2
 go_ret2
 exact⟨rfl,_,H3.out⟩
theorem min5_0 (w:World):(Builtin.min_ #[3,3] 3 #[.int .i64 5,.int .i64 0]).run prog w=.ok (.int .i64 0) w:=by kernel_rfl
theorem min5_1 (w:World):(Builtin.min_ #[3,3] 3 #[.int .i64 5,.int .i64 1]).run prog w=.ok (.int .i64 1) w:=by kernel_rfl
theorem min5_2 (w:World):(Builtin.min_ #[3,3] 3 #[.int .i64 5,.int .i64 2]).run prog w=.ok (.int .i64 2) w:=by kernel_rfl
theorem min5_3 (w:World):(Builtin.min_ #[3,3] 3 #[.int .i64 5,.int .i64 3]).run prog w=.ok (.int .i64 3) w:=by kernel_rfl
theorem min5_4 (w:World):(Builtin.min_ #[3,3] 3 #[.int .i64 5,.int .i64 4]).run prog w=.ok (.int .i64 4) w:=by kernel_rfl
theorem vl_left {w:World}{L:List Zae}{i j k Li LM LM' X m:Nat}{key:List UInt8}{bl:List (Nat×Nat)}{ll:List (List UInt8×Value)}(hm:m<=4)(hb:(X,m)∈bl)(hl:Za8 ll key=some (ptr X))(h:Sep w L)(hi:L[i]? =some (Zaa Li 193 #[.int .i64 5,.int .i64 5,.map (some LM),.map (some LM')]))(hj:L[j]? =some (Zan Zed LM ll))(hk:L[k]? =some (Zo5 bl)):
  CA 286 #[.pointer (some ⟨Li,0,none⟩),.string ⟨key.toArray⟩,.int .i64 0] w fun e w'=>e=.returned (.int .i64 ((m:Nat):Int))/\Sep w' L:=by
 have kK:=h.at_ hi
 have kX0:Blk w X 357 #[.int .i64 ((m:Nat):Int),.int .i64 0]:=h.get hk (X,m) hb
 have x0:w.cell? ⟨X,0,none⟩=some (.int .i64 ((m:Nat):Int)):=kX0.cell 0
 have x1:w.cell? ⟨X,1,none⟩=some (.int .i64 0):=kX0.cell 1
 have xl:=kX0.lt
 have q2:(Instr.lookup 190 (.map (some LM)) (.string ⟨key.toArray⟩) false).run prog w=.ok (.pointer (some ⟨X,0,none⟩)) w:=h.lookV (P:=prog) (t:=190) strK hj underlying190 underlying9 hl false
 have H:=Hd h
 have hmm:((m:Nat):Int)=0∨((m:Nat):Int)=1∨((m:Nat):Int)=2∨((m:Nat):Int)=3∨((m:Nat):Int)=4:=by omega
 clear h hl hi hj hk hb kX0
 generalize ((m:Nat):Int)=M at*
 clear hm
 rcases hmm with rfl | rfl | rfl | rfl | rfl
 all_goals
  have q50:=min5_0
  have q51:=min5_1
  have q52:=min5_2
  have q53:=min5_3
  have q54:=min5_4
  go_enter func286,ntmps286
  go_wp2
  go_quiet (fail)
  have h2:=H.out.drewN nq
  obtain⟨w2,hw2⟩:=exl (w.drewN nq)
  rw[hw2]at h2⊢
  have H2:=Hd h2
  clear h2 hw2 H
  go_wp2
  go_ret
  exact⟨rfl,H2.out⟩
theorem vl_check {w:World}{L:List Zae}{i j Li LM LM':Nat}{key:List UInt8}{sl:List (List UInt8×Value)}(hs:Za8 sl key=some (.int .i64 0))(h:Sep w L)(hi:L[i]? =some (Zaa Li 193 #[.int .i64 5,.int .i64 5,.map (some LM),.map (some LM')]))(hj:L[j]? =some (Zan Zed LM' sl)):
  CA 285 #[.pointer (some ⟨Li,0,none⟩),.string ⟨key.toArray⟩,.int .i64 0,.int .i64 1] w fun e w'=>e=.returned .nilIface/\w=w':=by
 have kK:=h.at_ hi
 have q1:(Instr.lookup 191 (.map (some LM')) (.string ⟨key.toArray⟩) false).run prog w=.ok (.int .i64 0) w:=h.lookV (P:=prog) (t:=191) strK hj underlying191 underlying9 hs false
 clear h hi hj hs
 go_enter func285,ntmps285
 go_wp2
 go_ret
 exact⟨rfl,rfl⟩
theorem vl_askO {w:World}{F:List Zae}{Li LM LM' X m:Nat}{key:List UInt8}{bl:List (Nat×Nat)}{sl ll:List (List UInt8×Value)}(hm:m<=4)(hb:(X,m)∈bl)(hsd:(sl.map (·.1)).Nodup)(hld:(ll.map (·.1)).Nodup)(hs:Za8 sl key=some (.int .i64 0))(hl:Za8 ll key=some (ptr X))(h:Sep w (Zaa Li 193 #[.int .i64 5,.int .i64 5,.map (some LM),.map (some LM')]::Zan Zed LM' sl::Zan Zed LM ll::Zo5 bl::F)):
  CA 231 #[.pointer (some ⟨Li,0,none⟩),.string ⟨key.toArray⟩,.int .i64 0,.int .i64 1] w fun e w'=>e=.returned (.tuple #[.bool (decide (1<=m)),.nilIface])/\∃Y,Sep w' (Zaa Y 357 #[.int .i64 ((m-1:Nat):Int),.int .i64 0]::Zaa Li 193 #[.int .i64 5,.int .i64 5,.map (some LM),.map (some LM')]::Zan Zed LM' (Ze3 sl key (.int .i64 0))::Zan Zed LM (Ze3 ll key (ptr Y))::Zo5 bl::F):=by
 have kK:=h.at_ (i:=0) rfl
 have HC:=Hd (vl_check hs h (i:=0) (j:=1) rfl rfl)
 have HL:=Hd (vl_left hm hb hl h (i:=0) (j:=2) (k:=3) rfl rfl rfl)
 have q2:(Instr.lookup 190 (.map (some LM)) (.string ⟨key.toArray⟩) false).run prog w=.ok (.pointer (some ⟨X,0,none⟩)) w:=h.lookV (P:=prog) (t:=190) strK (i:=2) rfl underlying190 underlying9 hl false
 have HU:=Hd (show∀(w2:World) (v:Value),Sep w2 (Zaa Li 193 #[.int .i64 5,.int .i64 5,.map (some LM),.map (some LM')]::Zan Zed LM' sl::Zan Zed LM ll::Zo5 bl::F)->∃es1 c1 es2 c2,(Instr.mapUpdate 190 (.map (some LM)) (.string ⟨key.toArray⟩) (.pointer (some ⟨w2.heap.size,0,none⟩))).run prog (w2.alloc (.cells #[.int .i64 ((m-1:Nat):Int),.int .i64 0] 357))=.ok () (putM (w2.alloc (.cells #[.int .i64 ((m-1:Nat):Int),.int .i64 0] 357)) LM es1 c1)/\(putM (w2.alloc (.cells #[.int .i64 ((m-1:Nat):Int),.int .i64 0] 357)) LM es1 c1).cell? ⟨Li,3,none⟩=some (.map (some LM'))/\
   (Instr.mapUpdate 191 (.map (some LM')) (.string ⟨key.toArray⟩) (.int .i64 0)).run prog (putM (w2.alloc (.cells #[.int .i64 ((m-1:Nat):Int),.int .i64 0] 357)) LM es1 c1)=.ok () (putM (putM (w2.alloc (.cells #[.int .i64 ((m-1:Nat):Int),.int .i64 0] 357)) LM es1 c1) LM' es2 c2)/\(w2.alloc (.cells #[.int .i64 ((m-1:Nat):Int),.int .i64 0] 357)).cell? ⟨Li,2,none⟩=some (.map (some LM))/\
   Hid (Sep (putM (putM (w2.alloc (.cells #[.int .i64 ((m-1:Nat):Int),.int .i64 0] 357)) LM es1 c1) LM' es2 c2) (Zaa w2.heap.size 357 #[.int .i64 ((m-1:Nat):Int),.int .i64 0]::Zaa Li 193 #[.int .i64 5,.int .i64 5,.map (some LM),.map (some LM')]::Zan Zed LM' (Ze3 sl key (.int .i64 0))::Zan Zed LM (Ze3 ll key (ptr w2.heap.size))::Zo5 bl::F))from by
  intro w2 v h2
  have h1:=h2.newBlk 357 #[.int .i64 ((m-1:Nat):Int),.int .i64 0]
  have kB:=h1.at_ (i:=1) rfl
  obtain⟨es1,c1,u1,H2⟩:=vl_updO (v:=ptr w2.heap.size) h1 (j:=3) rfl hl hld
  have k2:=H2.out.at_ (i:=1) rfl
  obtain⟨es2,c2,u2,H3⟩:=vl_updO2 (v:=.int .i64 0) H2.out (j:=2) rfl hs hsd
  exact⟨es1,c1,es2,c2,u1,k2.1 3,u2,kB.1 2,H3⟩)
 have hmm:(((m:Nat):Int)=0/\((m-1:Nat):Int)=0/\decide (1<=m)=false)∨(((m:Nat):Int)=1/\((m-1:Nat):Int)=0/\decide (1<=m)=true)∨(((m:Nat):Int)=2/\((m-1:Nat):Int)=1/\decide (1<=m)=true)∨(((m:Nat):Int)=3/\((m-1:Nat):Int)=2/\decide (1<=m)=true)∨(((m:Nat):Int)=4/\((m-1:Nat):Int)=3/\decide (1<=m)=true):=by
  have h5:m=0∨m=1∨m=2∨m=3∨m=4:=by omega
  rcases h5 with rfl | rfl | rfl | rfl | rfl <;> decide
 clear h hs hl hsd hld hb
 generalize ((m:Nat):Int)=M at*
 generalize ((m-1:Nat):Int)=N at*
 generalize decide (1<=m)=b at*
 clear hm
 rcases hmm with⟨rfl,rfl,rfl⟩ | ⟨rfl,rfl,rfl⟩ | ⟨rfl,rfl,rfl⟩ | ⟨rfl,rfl,rfl⟩ | ⟨rfl,rfl,rfl⟩
 all_goals
  go_enter func231,ntmps231
  go_wp2_with (first
   | (go_at_call 285;refine HC.out.mono ?_;rintro e w' ⟨rfl,rfl⟩)
   | (go_at_call 286;refine HL.out.mono ?_;rintro e w2 ⟨rfl,h2⟩;have k2:=h2.at_ (i:=0) rfl;obtain⟨es1,c1,es2,c2,u1,u2,u3,u4,H3⟩:=HU.out w2 .nilIface h2;clear h2))
  go_ret2
  exact⟨rfl,_,H3.out⟩
theorem Zc7 {K:Type} [DecidableEq K]{l:List (K×Value)}{k:K}(h:Za8 l k=none)(v:Value):Za8 (l++[(k,v)]) k=some v:=by
 unfold Za8 at h⊢
 rw[List.find?_append]
 cases hf:l.find? (fun p=>decide (p.1=k))with
 | none=>simp
 | some p=>rw[hf]at h;cases h
theorem Zrb {K:Type} [DecidableEq K]{l:List (K×Value)}{k:K}(h:Za8 l k=none):∀p∈l,p.1≠k:=by
 intro p hp e
 unfold Za8 at h
 cases hf:l.find? (fun p=>decide (p.1=k))with
 | none=>exact absurd (List.find?_eq_none.1 hf p hp) (by simp[e])
 | some q=>rw[hf]at h;cases h
theorem Z1t {K:Type} [DecidableEq K]{l:List (K×Value)}{k:K}(h:Za8 l k=none)(v v':Value):Ze3 (l++[(k,v)]) k v'=l++[(k,v')]:=by
 unfold Ze3
 rw[List.map_append]
 congr 1
 ·have e:∀p∈l,(fun p:K×Value=>if p.1=k then(k,v')else p) p=id p:=fun p hp=>by simp[Zrb h p hp]
  rw[List.map_congr_left e,List.map_id]
 ·simp
theorem Zk6 {K:Type} [DecidableEq K]{l:List (K×Value)}{k:K}(h:Za8 l k=none)(hd:(l.map (·.1)).Nodup)(v:Value):((l++[(k,v)]).map (·.1)).Nodup:=by
 rw[List.map_append,List.nodup_append]
 refine⟨hd,by simp,?_⟩
 intro a ha b hb e
 obtain⟨p,hp,rfl⟩:=List.mem_map.1 ha
 simp only[List.map_cons,List.map_nil,List.mem_singleton]at hb
 exact Zrb h p hp (e.trans hb)
theorem en_nx (en:Bool):(if en then 2 else 1:Int)=1∨(if en then 2 else 1:Int)=2∨(if en then 2 else 1:Int)=4:=by cases en <;> simp
theorem Znn (en:Bool)(nx:Int)(hnx:(if en then 2 else 1:Int)=nx)(w:World):CA 275 #[.int .i64 0,.int .i64 1,.bool en] w fun e w'=>e=.returned (.tuple #[.int .i64 nx,.int .i64 0,.bool false])/\w=w':=by
 subst hnx
 cases en
 all_goals
  go_enter func275,ntmps275
  go_wp2
  go_ret3
  exact⟨rfl,rfl⟩
theorem Ztx {w:World}{F:List Zae}{kb C S M MS P gg hh c5 n5 k ne ec0 tc:Nat}{A5 E0 TA:Option Addr}{ys ys' L:List Fld}{blk:List UInt8}{xs:List Value}{cl sl:List (Int×Value)}{ord inn out part:Value}{iw ow un last many:Int}{began en:Bool}
  (hk:k < 1000) (hn5:n5=blk.length) (h0:0 < n5) (hm:n5<=100000) (hne:ne<=1000) (hl:last < sid k) (hcv:Za8 cl (sid k)=none) (hsv:Za8 sl (sid k)=none) (hsd:(sl.map (·.1)).Nodup) (hsn:sl.length<=15) (hint:∀p∈sl,∃st,p.2=.int .i64 st) (hH:heard 4096 ys 4096 [] blk=⟨0,ys',4096,L,0⟩)
  (h:Sep w (Zaa C 93 (Zai gg hh)::Zbw hh TA tc ys 4096::Zad 5 1 (.slice A5 n5 c5) n5 (bs blk)::Zaa kb 200 (Zaf C S M ord inn out iw ow un began part (.slice E0 ne ec0))::Zad 215 6 (.slice E0 ne ec0) ne xs::Zan Zat M cl::
   Zaa S 254 (Zbf MS last)::Zan Zat MS sl::Zaa P 307 (Zbr (sid k) many en (.slice A5 n5 c5))::F)):
  CA 273 #[.pointer (some ⟨kb,0,none⟩),.pointer (some ⟨P,0,none⟩)] w fun e w'=>e=.returned (.tuple #[])/\∃X D dc E ec TA' tc',Sep w' (Zaa kb 200 (Zaf C S M ord inn out iw ow un began (.pointer none) (.slice E (ne+1) ec))::
   Zad 215 6 (.slice E (ne+1) ec) (ne+1) (xs++(evV 1 (sid k) 0 (.slice D L.length dc) (.slice none 0 0) en).toList)::Zaa X 313 (Zbn 2000 2000 0 (.slice none 0 0) false false)::Zan Zat M (cl++[(sid k,ptr X)])::
   Zaa S 254 (Zbf MS (sid k))::Zan Zat MS (sl++[(sid k,.int .i64 (if en then 2 else 1))])::Zad 41 2 (.slice D L.length dc) L.length (fvs L)::Zaa C 93 (Zai gg hh)::Zbw hh TA' tc' ys' 4096::F):=by
 have HSV:=Hd hsv
 have HCV:=Hd hcv
 have HSD:=Hd hsd
 have HSN:=Hd hsn
 have HI:=Hd hint
 have HL:=Hd hl
 have HH:=Hd hH
 have HM:=Hd (And.intro hn5 (And.intro h0 hm))
 obtain⟨id,hid⟩:=exl (sid k)
 have HID:=Hd hid
 rw[hid]at h⊢
 obtain⟨nx,hnx⟩:∃nx:Int,(if en then 2 else 1:Int)=nx:=⟨_,rfl⟩
 have hnx3:=en_nx en
 rw[hnx]at hnx3⊢
 have HNX:=Hd (And.intro hnx hnx3)
 clear hnx hnx3
 have kK:=h.at_ (i:=3) rfl
 have kP:=h.at_ (i:=8) rfl
 have n1:=h.ne_ (i:=3) (i':=8) rfl rfl (by decide)
 have n2:=Ne.symm n1
 have H:=Hd h
 unfold Zaf at kK
 unfold Zbr at kP
 clear h hsv hcv hsd hsn hint hl hH hid hn5 h0 hm
 go_enter func273,ntmps273
 go_wp2_with fail
 obtain⟨w1,hw1⟩:=exl (w.setCell ⟨kb,12,none⟩ (.pointer none))
 have h1:=H.out.set_ (i:=3) rfl 12 (.pointer none)
 rw[hw1]at h1⊢
 change Sep w1 (_::_::_::Zaa kb _ (Zaf C S M ord inn out iw ow un began (.pointer none) (.slice E0 ne ec0))::_)at h1
 clear kK kP n1 n2 H hw1
 have kK:=h1.at_ (i:=3) rfl
 have kP:=h1.at_ (i:=8) rfl
 have H1:=Hd h1.drew
 unfold Zaf at kK
 unfold Zbr at kP
 clear h1
 go_region_held3 (fun w'=>w'.cell? ⟨kb,0,none⟩=some (.pointer (some ⟨C,0,none⟩))/\w'.cell? ⟨P,3,none⟩=some (.slice A5 n5 c5)) (first | exact⟨kK.1 0,kP.1 3⟩ | exact⟨kK2.1 0,kP2.1 3⟩ | go_keep)
  (first | (go_at_call 11;refine(sep_dec H1.out blk A5 n5 c5 0 HM.out.1 HM.out.2.1 (by have:=HM.out.2.2;omega) rfl ys' L HH.out).mono ?_;rintro e w2 ⟨D,n7,dc,rfl,rfl,TA',tc',h2⟩;have kK2:=h2.at_ (i:=4) rfl;have kP2:=h2.at_ (i:=9) rfl;have H2:=Hd h2;unfold Zaf at kK2;unfold Zbr at kP2;clear h2))
 clear kK kP
 go_wp2_with fail
 refine(vc_stop0 H2.out (i:=4) (j:=6) rfl rfl (HID.out ▸ HCV.out)).mono ?_
 rintro e w' ⟨rfl,rfl⟩
 go_wp2_with fail
 refine(show Calls _ _ #[_,.int .i64 id] _ _ from HID.out ▸ vs_idle k hk HL.out H2.out (i:=7) rfl).mono ?_
 rintro e w' ⟨rfl,rfl⟩
 have ho:=Sep.ordN H2.out 10 [7,8,0,1,2,3,4,5,6,9] rfl (by decide)
 simp only[Zbo,Zbd,Zam]at ho
 have HO:=Hd (vs_open k hk HSN.out HI.out HL.out HSV.out ho)
 clear ho
 go_wp2_with fail
 rw[HID.out]at HO
 refine Mo HO ?_
 rintro e w3 ⟨rfl,h3⟩
 clear kK2 kP2 H2 H1 HO
 have kK:=h3.at_ (i:=6) rfl
 have kP:=h3.at_ (i:=9) rfl
 have H3:=Hd h3
 unfold Zaf at kK
 unfold Zbr at kP
 clear h3
 go_wp2_with fail
 refine(Znn en nx HNX.out.1 w3).mono ?_
 rintro e w' ⟨rfl,rfl⟩
 have h3:=H3.out
 rw[<-HID.out]at h3
 have HV:=Hd (Zvi k 1 nx hk HNX.out.2 (by decide) (Int.le_refl _) (Zc7 HSV.out _) (Zk6 HSV.out HSD.out _) h3 (i:=6) (i1:=0) (j:=1) rfl rfl rfl)
 rw[Z1t HSV.out,HID.out]at HV
 clear h3
 go_wp2_with fail
 refine Mo HV ?_
 rintro e w4 ⟨rfl,h4⟩
 have h4':=Sep.ordN h4 10 [6,8,0,1,2,3,4,5,7,9] rfl (by decide)
 simp only[Zbd,List.set_cons_succ,List.set_cons_zero,List.map_cons,List.map_nil,List.cons_append,List.nil_append,List.drop_succ_cons,List.drop_zero]at h4'
 have H4:=Hd h4'
 have kP:=h4'.at_ (i:=9) rfl
 clear kK HV H3 h4 h4'
 unfold Zbr at kP
 go_wp2_with fail
 refine(vc_new (HID.out ▸ HCV.out) H4.out).mono ?_
 rintro e w5 ⟨X,rfl,h5⟩
 have h5':=Sep.ordN h5 11 [1,9,0,2,3,4,5,6,7,8,10] rfl (by decide)
 simp only[Zbo,Zbd,Zam]at h5'
 clear kP
 have kP:=h5'.at_ (i:=10) rfl
 have H5:=Hd h5'
 unfold Zbr at kP
 clear h5 h5' H4
 go_wp2_with fail
 refine(Ztz hne 1 id 0 D none L.length dc 0 0 en H5.out).mono ?_
 rintro e w6 ⟨rfl,E,ec,h6⟩
 have H6:=Hd h6
 clear h6 H5 kP
 go_wp2
 refine bodyPost_end (results_none rfl _ _ _) rfl ?_
 exact⟨rfl,X,D,dc,E,ec,TA',tc',(H6.out.drop_ 9).drop_ 9⟩
theorem Zcu {K:Type} [DecidableEq K]{l:List (K×Value)}{k x:K}(v:Value)(h:x≠k):Za8 (l++[(k,v)]) x=Za8 l x:=by
 unfold Za8
 rw[List.find?_append]
 have e:([(k,v)]:List (K×Value)).find? (fun p=>decide (p.1=x))=none:=by simp[Ne.symm h]
 rw[e,Option.or_none]
theorem Zc8 {K:Type} [DecidableEq K](l:List (K×Value))(k x:K)(v:Value):Za8 (Ze3 l k v) x=if x=k then(Za8 l k).map (fun _=>v)else Za8 l x:=by
 induction l with
 | nil=>unfold Ze3 Za8;split <;> rfl
 | cons p l ih=>
  obtain⟨a,u⟩:=p
  unfold Ze3 Za8 at ih⊢
  rw[List.map_cons,List.find?_cons,List.find?_cons,List.find?_cons]
  by_cases hak:a=k
  ·subst hak
   by_cases hx:x=a
   ·subst hx;simp
   ·have h2:¬a=x:=fun e=>hx e.symm
    simp only[if_true,decide_eq_false h2,hx,if_false]at ih⊢
    exact ih
  ·by_cases hx:x=k
   ·subst hx
    simp only[hak,if_false,decide_false,if_true]at ih⊢
    exact ih
   ·by_cases hax:a=x
    ·subst hax
     simp[hak]
    ·simp only[hak,hax,hx,if_false,decide_false]at ih⊢
     exact ih
structure Zj0 (f:List UInt8->Option Nat)(sl ll:List (List UInt8×Value))(bl:List (Nat×Nat)):Prop where
 nd1:(sl.map (·.1)).Nodup
 nd2:(ll.map (·.1)).Nodup
 no:∀k,f k=none->Za8 sl k=none/\Za8 ll k=none
 yes:∀k m,f k=some m->m<=4/\Za8 sl k=some (.int .i64 0)/\∃X,Za8 ll k=some (ptr X)/\(X,m)∈bl
def limS (f:List UInt8->Option Nat)(k:List UInt8):List UInt8->Option Nat:=fun x=>if x=k then some ((f k).getD 5-1)else f x
theorem Zj0.nil :Zj0 (fun _=>none) [] [] []:=⟨.nil,.nil,fun _ _=>⟨rfl,rfl⟩,fun _ _ h=>by cases h⟩
theorem Zxu {w:World}{F:List Zae}{Li LM LM':Nat}{f:List UInt8->Option Nat}{sl ll:List (List UInt8×Value)}{bl:List (Nat×Nat)}(key:List UInt8)(hO:Zj0 f sl ll bl)(hn:ll.length<=8)(h:Sep w (Zaa Li 193 #[.int .i64 5,.int .i64 5,.map (some LM),.map (some LM')]::Zan Zed LM' sl::Zan Zed LM ll::Zo5 bl::F)):
  CA 231 #[.pointer (some ⟨Li,0,none⟩),.string ⟨key.toArray⟩,.int .i64 0,.int .i64 1] w fun e w'=>e=.returned (.tuple #[.bool (decide (1<=(f key).getD 5)),.nilIface])/\∃sl' ll' bl',Zj0 (limS f key) sl' ll' bl'/\ll'.length<=ll.length+1/\Sep w' (Zaa Li 193 #[.int .i64 5,.int .i64 5,.map (some LM),.map (some LM')]::Zan Zed LM' sl'::Zan Zed LM ll'::Zo5 bl'::F):=by
 cases hf:f key with
 | none=>
  obtain⟨h1,h2⟩:=hO.no key hf
  refine(vl_askN h1 h2 hn h).mono ?_
  rintro e w' ⟨rfl,Y,h3⟩
  refine⟨rfl,sl++[(key,.int .i64 0)],ll++[(key,ptr Y)],(Y,4)::bl,⟨Zk6 h1 hO.nd1 _,Zk6 h2 hO.nd2 _,fun k hk=> ?_,fun k m hk=> ?_⟩,by simp,?_⟩
  ·unfold limS at hk
   split at hk
   ·cases hk
   ·rename_i hx
    rw[Zcu _ hx,Zcu _ hx]
    exact hO.no k hk
  ·unfold limS at hk
   split at hk
   ·rename_i hx
    subst hx
    rw[hf]at hk
    cases hk
    exact⟨by decide,Zc7 h1 _,Y,Zc7 h2 _,List.mem_cons_self⟩
   ·rename_i hx
    rw[Zcu _ hx,Zcu _ hx]
    obtain⟨a,b,X,c,d⟩:=hO.yes k m hk
    exact⟨a,b,X,c,List.mem_cons_of_mem _ d⟩
  ·have h5:=Sep.ordN h3 5 [0,4,1,2,3] rfl (by decide)
   simp only[Zbo,Zbd,Zam]at h5
   have h6:=Sep.ordN (Sep.bktAdd (m:=4) h5) 4 [1,2,3,0] rfl (by decide)
   simp only[Zbo,Zbd,Zam]at h6
   exact h6
 | some m=>
  obtain⟨hm,h1,X,h2,hb⟩:=hO.yes key m hf
  refine(vl_askO hm hb hO.nd1 hO.nd2 h1 h2 h).mono ?_
  rintro e w' ⟨rfl,Y,h3⟩
  refine⟨rfl,Ze3 sl key (.int .i64 0),Ze3 ll key (ptr Y),(Y,m-1)::bl,⟨by rw[Zgp];exact hO.nd1,by rw[Zgp];exact hO.nd2,fun k hk=> ?_,fun k m' hk=> ?_⟩,by unfold Ze3;simp,?_⟩
  ·unfold limS at hk
   split at hk
   ·cases hk
   ·rename_i hx
    rw[Zc8,Zc8,if_neg hx,if_neg hx]
    exact hO.no k hk
  ·unfold limS at hk
   split at hk
   ·rename_i hx
    subst hx
    rw[hf]at hk
    cases hk
    rw[Zc8,Zc8,if_pos rfl,if_pos rfl,h1,h2]
    exact⟨by simp only[Option.getD_some];omega,rfl,Y,rfl,List.mem_cons_self⟩
   ·rename_i hx
    rw[Zc8,Zc8,if_neg hx,if_neg hx]
    obtain⟨a,b,X',c,d⟩:=hO.yes k m' hk
    exact⟨a,b,X',c,List.mem_cons_of_mem _ d⟩
  ·have h5:=Sep.ordN h3 5 [0,4,1,2,3] rfl (by decide)
   simp only[Zbo,Zbd,Zam]at h5
   have h6:=Sep.ordN (Sep.bktAdd (m:=m-1) h5) 4 [1,2,3,0] rfl (by decide)
   simp only[Zbo,Zbd,Zam]at h6
   exact h6
end
end Go.Proofs.YtbgnggkgmeagkaaGreatDoor
