/-
  A part of the proof of TopAlike: each theorem states its own conditions.
-/
import Derived.Test.YtbgnggkgmeagkaaGreatDoorMTopAlike05
import Derived.WideMake
import Derived.Laws.IdiomCopy
set_option linter.unusedSimpArgs false
set_option linter.unusedVariables false
set_option maxRecDepth 100000
set_option maxHeartbeats 16000000
namespace Go.Proofs.YtbgnggkgmeagkaaGreatDoor
open Go.Proofs.Tryz
section
open Go.RowKit
attribute [local go_sem ↓] Go.wp_at_zero Go.wp_at_succ
theorem Tab.setMx {w:World}{g:Nat}{A:Option Addr}{c:Nat}{xs:List Fld}{mx:Nat}(h:Tab w g A c xs mx)(m:Nat)(hm:m<=4096):Tab (w.setCell ⟨g,2,none⟩ (.int .i64 (m:Int))) g A c xs m:=by
 refine⟨?_,Zif h.own (Zyb h) _,h.wt,hm⟩
 have:=h.blk.set_ 2 (.int .i64 (m:Int))
 simpa using this
theorem Zvu {w:World}{g:Nat}{A:Option Addr}{c:Nat}{xs:List Fld}{mx:Nat}(h:Tab w g A c xs mx)(m:Nat)(hm:m<=4096):
  CA 97 #[.pointer (some ⟨g,0,none⟩),.int .i64 (m:Int)] w fun e w'=>e=.returned .nilIface/\Tab w' g A c (shr m xs) m/\Zax (Zhs g A) w w':=by
 obtain⟨_,_,c2⟩:=h.cells
 have f2:=h.blk.frozen 2
 have h2:=Hd (h.setMx m hm)
 have hk:=Hd ((Zax.refl (Zhs g A) w).setCell (p:=⟨g,2,none⟩) (.inl (.inl rfl)) (.int .i64 (m:Int)))
 clear h
 go_enter func97,ntmps97
 go_wp2_with (go_at_call 85;refine(Zpo _ (by omega) (by omega) _).mono ?_;rintro e w' ⟨rfl,rfl⟩)
 go_wp2_with (go_at_call 92;refine(Zi2 h2.out m hm).mono ?_;rintro e w' ⟨rfl,h3,h4⟩)
 go_ret
 exact⟨rfl,h3,hk.out.trans h4 fun _ hi=> .inl hi⟩
theorem Zra (w:World):Zab (w.alloc (.cells (fvs alw).toArray 41)) (w.heap.size+1) 2 (some ⟨w.heap.size,0,none⟩) alw.length (fvs alw):=by
 refine⟨Zfi _,fun _=>⟨_,rfl,by simp,fun j u hu=> ?_⟩⟩
 rw[Addr.add_lit,Blk.cell (Blk.new _ _ _)]
 simpa using hu
theorem tAll_low {xs:List Fld}{k:Nat}(h:k < 12):(Zb9 xs).getD k ([],[])=alw[k]'h:=by
 rw[List.getD_eq_getElem?_getD,Zb9,List.getElem?_append_left (by rw[Zly];exact h),List.getElem?_eq_getElem (by rw[Zly];exact h)]
 rfl
theorem Zyd {xs:List Fld}{k:Nat}(h:k < xs.length):(Zb9 xs).getD (12+k) ([],[])=xs[k]:=by
 rw[List.getD_eq_getElem?_getD,Zb9,List.getElem?_append_right (by rw[Zly];omega),Zly,Nat.add_sub_cancel_left,List.getElem?_eq_getElem h,Option.getD_some]
theorem Zms {w w1:World}(hb:Below ((w.alloc (.cells #[.string ⟨#[]⟩,.string ⟨#[]⟩] 41)).alloc (.cells (fvs alw).toArray 41)).heap.size ((w.alloc (.cells #[.string ⟨#[]⟩,.string ⟨#[]⟩] 41)).alloc (.cells (fvs alw).toArray 41)) w1):
  w1.cell? ⟨w.heap.size,0,none⟩=some (.string ⟨#[]⟩)/\w1.cell? ⟨w.heap.size,1,none⟩=some (.string ⟨#[]⟩)/\w1.frozen? ⟨w.heap.size,0,none⟩=false/\w1.frozen? ⟨w.heap.size,1,none⟩=false:=by
 have hB:Blk ((w.alloc (.cells #[.string ⟨#[]⟩,.string ⟨#[]⟩] 41)).alloc (.cells (fvs alw).toArray 41)) w.heap.size 41 #[.string ⟨#[]⟩,.string ⟨#[]⟩]:=(Blk.new w _ _).alloc _
 have h2:Blk w1 w.heap.size 41 #[.string ⟨#[]⟩,.string ⟨#[]⟩]:=hB.below hb (by simp;omega)
 exact⟨h2.cell 0,h2.cell 1,h2.frozen 0,h2.frozen 1⟩
theorem Zz9 {w:World}{g:Nat}{A:Option Addr}{c:Nat}{xs:List Fld}{mx:Nat}(h:Tab w g A c xs mx)(k:Nat)(hk:k < 12+xs.length)(f:Fld)(hf:(Zb9 xs).getD k ([],[])=f):
  CA 95 #[.pointer (some ⟨g,0,none⟩),.int .i64 ((k:Int)+1)] w fun e w'=>e=.returned (.tuple #[.agg #[.string ⟨f.1.toArray⟩,.string ⟨f.2.toArray⟩],.nilIface])/\Below w.heap.size w w':=by
 have hd:decide ((k:Int)+1 < 1)=false:=by simp;omega
 have hd2:decide (12+(xs.length:Int) < (k:Int)+1)=false:=by simp;omega
 have hcap:=h.cap.2.2
 have hb1:=(Below.refl w.heap.size w).alloc (Nat.le_refl _) (.cells #[.string ⟨#[]⟩,.string ⟨#[]⟩] 41)
 have hb2:=Hd (hb1.alloc hb1.size (.cells (fvs alw).toArray 41))
 have hT:=Hd (h.below hb2.out)
 clear hb1
 by_cases hlow:k < 12
 ·have hal:=Zra (w.alloc (.cells #[.string ⟨#[]⟩,.string ⟨#[]⟩] 41))
  have hr:=hal.more (show _<=((w.alloc (.cells #[.string ⟨#[]⟩,.string ⟨#[]⟩] 41)).alloc (.cells (fvs alw).toArray 41)).heap.size by simp)
  have HR:=Hd hr
  rw[tAll_low hlow]at hf
  clear hal hr h
  have hl12:((k:Int)+1<=12):=by omega
  go_enter func95,ntmps95
  go_wp2_with (go_at_call 89;refine(Zhc _).mono ?_;rintro e w' ⟨rfl,rfl⟩)
  go_wp2_with fail
  refine(Zzq hT.out).mono ?_
  rintro e w1 ⟨rfl,hb3⟩
  obtain⟨r0,r1,r2,r3⟩:=Zms hb3
  obtain⟨b,off,he,_,hcl⟩:=Zb4 (HR.out.below hb3) (by decide)
  obtain⟨e1,e2⟩:=hcl k hlow
  cases he
  rw[hf]at e1 e2
  simp only[World.size_alloc,Nat.zero_add]at e1 e2
  have hb4:=Hd (hb2.out.trans (hb3.mono hb2.out.size))
  clear hb3 hcl hf
  go_wp2
  exact bodyPost_ret (v:=.tuple #[.agg #[.string ⟨f.1.toArray⟩,.string ⟨f.2.toArray⟩],.nilIface]) (by simp[results,Tryz.results95,go_sem,r0,r1]) rfl ⟨rfl,(hb4.out.setCell (p:=⟨w.heap.size,0,none⟩) (Nat.le_refl _) _).setCell (p:=⟨w.heap.size,1,none⟩) (Nat.le_refl _) _⟩
 ·obtain⟨j,rfl⟩:∃j,k=12+j:=⟨k-12,by omega⟩
  rw[Zyd (by omega)]at hf
  have hh:=hT.out
  obtain⟨c0,_,_⟩:=hh.cells
  obtain⟨b,off,rfl,hbB,hcl⟩:=Zb4 (Zei hh.own) (by omega)
  obtain⟨e1,e2⟩:=hcl j (by omega)
  rw[hf]at e1 e2
  have hl12:decide (((12+j:Nat):Int)+1<=12)=false:=by simp;omega
  have hj:((12+j:Nat):Int)=12+(j:Int):=by omega
  rw[hj]at hd hd2 hl12⊢
  have hj2:(j:Int) < (xs.length:Int):=by omega
  clear hcl hf hh h hj
  go_enter func95,ntmps95
  go_wp2_with (go_at_call 89;refine(Zhc _).mono ?_;rintro e w' ⟨rfl,rfl⟩)
  go_wp2_with fail
  refine(Zzq hT.out).mono ?_
  rintro e w1 ⟨rfl,hb3⟩
  obtain⟨r0,r1,r2,r3⟩:=Zms hb3
  have q0:=Zaj hb3 c0
  have q1:=Zaj hb3 e1
  have q2:=Zaj hb3 e2
  have hb4:=Hd (hb2.out.trans (hb3.mono hb2.out.size))
  clear hb3 c0 e1 e2
  go_wp2
  exact bodyPost_ret (v:=.tuple #[.agg #[.string ⟨f.1.toArray⟩,.string ⟨f.2.toArray⟩],.nilIface]) (by simp[results,Tryz.results95,go_sem,r0,r1]) rfl ⟨rfl,(hb4.out.setCell (p:=⟨w.heap.size,0,none⟩) (Nat.le_refl _) _).setCell (p:=⟨w.heap.size,1,none⟩) (Nat.le_refl _) _⟩
end
section
open Go.RowKit
attribute [local go_sem ↓] Go.wp_at_zero Go.wp_at_succ
theorem Zmk (l:List Fld)(hf:∀f∈l,fOk f)(hw:wt l<=9000000000000000000)(A:Option Addr)(n c:Nat)(hn:n=l.length)(w:World)(hr:Zab w w.heap.size 2 A l.length (fvs l)):
  CA 86 #[.slice A n c] w fun e w'=>e=.returned (.int .i64 ((wt l:Nat):Int))/\Below w.heap.size w w':=by
 subst hn
 have HR:=Hd hr
 have HF:=Hd hf
 have hl:=Zmj l
 clear hr hf
 go_enter func86,ntmps86
 go_wp2
 go_loopw [3,8] (fun x i wr=>∃k:Nat,k<=l.length/\i=.int .i64 (k:Int)/\x=.int .i64 ((wt (l.take k):Nat):Int)/\Hid (Below w.heap.size w wr)) (fun _ i _=>l.length-(intOf i).toNat)
 case atStart=>exact⟨0,Nat.zero_le _,rfl,rfl,Below.refl _ _⟩
 case round=>
  obtain⟨k,hk,rfl,rfl,HB⟩:=hrel
  have hle:=Zix l k
  by_cases hlt:k < l.length
  ·have hs:=Zje l k hlt
   have hle2:=Zix l (k+1)
   obtain⟨b,off,rfl,hbB,hcl⟩:=Zb4 (HR.out.below HB.out) (by omega)
   obtain⟨e0,e1⟩:=hcl k hlt
   have hbr:=Nat.lt_of_lt_of_le hbB HB.out.size
   have hfk:=Hd (HF.out l[k] (List.getElem_mem hlt))
   have HS:=Hd hs
   clear hcl hs
   generalize l[k]=f at*
   generalize wt (l.take k)=W at*
   have hW:fsz f+W<=9000000000000000000:=by have:=HS.out;omega
   have HB2:=Hd (HB.out.alloc HB.out.size (.cells #[.string ⟨f.1.toArray⟩,.string ⟨f.2.toArray⟩] 41))
   have HB2s:=HB2.out.size
   go_wp2_with (go_at_call 91;refine(Zgs f hfk.out _).mono ?_;rintro e w1 ⟨rfl,hb1⟩)
   go_roundw
   case rel=>exact⟨k+1,by omega,by go_num,by rw[HS.out];go_num,HB2.out.trans (hb1.mono HB2s)⟩
   case measure=>simp[intOf];omega
  ·have hke:l.take k=l:=List.take_of_length_le (by omega)
   rw[hke]at hle⊢
   go_wp2
   go_ret
   exact⟨rfl,HB.out⟩
theorem wt_bound (l:List Fld)(hf:∀f∈l,fOk f):wt l<=l.length*281474976710688:=by
 induction l with
 | nil=>exact Nat.zero_le _
 | cons f r ih=>
  have h1:=ih fun x hx=>hf x (List.mem_cons_of_mem _ hx)
  obtain⟨h2,h3⟩:=hf f List.mem_cons_self
  rw[Zrk,List.length_cons,Nat.succ_mul]
  unfold fsz
  generalize r.length*281474976710688=M at*
  omega
theorem Zg5 (l:List Fld)(hf:∀f∈l,fOk f)(hm:l.length<=140737488355328)(A:Option Addr)(n c:Nat)(hn:n=l.length)(w:World)(hr:Zab w w.heap.size 2 A l.length (fvs l)):
  CA 40 #[.slice A n c] w fun e w'=>e=.returned (.bool (Za2 l))/\Below w.heap.size w w':=by
 subst hn
 by_cases h40:40 < l.length
 ·have e:Za2 l=true:=by simp[Za2,h40]
  rw[e]
  have hi:(40:Int) < ((l.length:Nat):Int):=by omega
  clear e hr
  go_enter func40,ntmps40
  go_wp2
  go_ret
  exact⟨rfl,Below.refl _ _⟩
 ·have hd:decide ((40:Int) < ((l.length:Nat):Int))=false:=by simp;omega
  have hwl:wt l<=40*281474976710688:=by
   have h:=wt_bound l hf
   have h3:l.length*281474976710688<=40*281474976710688:=Nat.mul_le_mul_right _ (by omega)
   exact Nat.le_trans h h3
  by_cases h2:2000 < wt l
  ·have e:Za2 l=true:=by simp[Za2,h2]
   rw[e]
   have HI:=Hd (show(2000:Int) < ((wt l:Nat):Int)by omega)
   clear e
   go_enter func40,ntmps40
   go_wp2_with fail
   refine(Zmk l hf (by omega) A _ _ rfl w hr).mono ?_
   rintro e w1 ⟨rfl,hb⟩
   have hi:=HI.out
   go_wp2
   go_ret
   exact⟨rfl,hb⟩
  ·have e:Za2 l=false:=by simp[Za2,h40,h2]
   rw[e]
   have HI:=Hd (show decide ((2000:Int) < ((wt l:Nat):Int))=false by simp;omega)
   clear e
   go_enter func40,ntmps40
   go_wp2_with fail
   refine(Zmk l hf (by omega) A _ _ rfl w hr).mono ?_
   rintro e w1 ⟨rfl,hb⟩
   have hi:=HI.out
   go_wp2
   go_ret
   exact⟨rfl,hb⟩
structure Wr (w:World)(g:Nat)(v:Value)(l:List UInt8):Prop where
 blk:Blk w g 97 #[v]
 own:w.ownsRow 0 5 1 v l.length (bs l)
def Ztu (g:Nat)(v:Value)(k:Nat):Prop:=k=g∨v.ownBlock=some k
theorem Wr.lt {w:World}{g:Nat}{v:Value}{l:List UInt8}(h:Wr w g v l):∀k,Ztu g v k->k < w.heap.size:=by
 rintro k (rfl | hk)
 ·exact h.blk.lt
 ·exact(h.own.lt k hk).2
theorem Za3 {S:Nat->Prop}{w w':World}{B size n:Nat}{e:TypeId}{v:Value}{xs:List Value}(h:w.ownsRow B e size v n xs)(hk:Zax S w w')(hS:∀k,v.ownBlock=some k->¬S k):w'.ownsRow B e size v n xs:=by
 refine⟨h.1,?_⟩
 rcases h.2 with h0 | ⟨g,cap,cur,rfl,hB,hh,hr⟩
 ·exact .inl h0
 ·exact .inr ⟨g,cap,cur,rfl,hB,(hk.block g (Blk.lt (t:=e) (cs:=cur) hh) (hS g rfl)).trans hh,hr⟩
theorem Wr.keep {S:Nat->Prop}{w w':World}{g:Nat}{v:Value}{l:List UInt8}(h:Wr w g v l)(hk:Zax S w w')(hS:∀k,Ztu g v k->¬S k):Wr w' g v l:=
 ⟨h.blk.keep hk (hS g (.inl rfl)),Za3 h.own hk fun k hk=>hS k (.inr hk)⟩
def Wrote (w w':World)(g:Nat)(v:Value)(l:List UInt8):Prop:=∃v',Wr w' g v' l/\Zax (Ztu g v) w w'/\∀k,Ztu g v' k->Ztu g v k∨w.heap.size<=k
theorem Zk4 {w w':World}{base:Nat}{e:TypeId}{size n:Nat}{v:Value}{xs:List Value}(h:w.ownsRow base e size v n xs)(hb:Below w.heap.size w w'):w'.ownsRow base e size v n xs:=
 Za3 h (Zax.of_below (S:=fun _=>False) hb) fun _ _ h=>h
theorem Zas {w:World}{B size n:Nat}{e:TypeId}{v:Value}{xs:List Value}(h:w.ownsRow B e size v n xs):∃A c,v=.slice A n c:=by
 rcases h.2 with⟨rfl,rfl⟩ | ⟨g,cap,cur,rfl,_⟩
 ·exact⟨_,_,rfl⟩
 ·exact⟨_,_,rfl⟩
theorem Zo6 {w w1 w2:World}{g:Nat}{v v2:Value}{l x:List UInt8}(h:Wr w g v l)(hb1:Below w.heap.size w w1)(hown2:w2.ownsRow 0 5 1 v2 (l.length+x.length) (bs l++bs x))(hg2:w1.grownBy w2 v.ownBlock)
  (hv:v2.ownBlock=v.ownBlock∨v2.ownBlock=some w1.heap.size):Wrote w (w2.setCell ⟨g,0,none⟩ v2) g v (l++x)/\w2.cell? ⟨g,0,none⟩=some v/\w2.frozen? ⟨g,0,none⟩=false/\g < w2.heap.size:=by
 have hbk1:=h.blk.below hb1 h.blk.lt
 have hne:v.ownBlock≠some g:=Zao h.own h.blk (by decide)
 have hbk2:Blk w2 g 97 #[v]:=hbk1.grown hg2 (fun e=>hne e.symm)
 have hne2:v2.ownBlock≠some g:=by
  rcases hv with h1 | h1
  ·rw[h1];exact hne
  ·rw[h1]
   intro e
   injection e with e
   have:=hbk1.lt
   omega
 have k1:Zax (Ztu g v) w w2:=(Zax.of_below (S:=Ztu g v) hb1).grown hg2 fun k hk=> .inl (.inr hk)
 refine⟨⟨v2,⟨?_,?_⟩,k1.setCell (.inl (.inl rfl)) _,?_⟩,hbk2.cell 0,hbk2.frozen 0,hbk2.lt⟩
 ·have:=hbk2.set_ 0 v2
  simpa using this
 ·have k2:Zax (fun k=>k=g) w2 (w2.setCell ⟨g,0,none⟩ v2):=(Zax.refl (fun k=>k=g) w2).setCell (p:=⟨g,0,none⟩) (.inl rfl) v2
  rw[List.length_append,Za1]
  exact Za3 hown2 k2 fun k hk he=>hne2 (he ▸ hk)
 ·rintro k (rfl | hk)
  ·exact .inl (.inl rfl)
  ·rcases hv with h1 | h1
   ·exact .inl (.inr (by rw[<-h1];exact hk))
   ·rw[h1]at hk
    cases hk
    exact .inr hb1.size
theorem Ztq {w:World}{g:Nat}{v:Value}{l:List UInt8}(h:Wr w g v l)(n bits first:Int)(hl:l.length+(Zd4 n bits first).length<=140737488355328):
  CA 41 #[.pointer (some ⟨g,0,none⟩),.int .i64 n,.int .i64 bits,.int .i64 first] w fun e w'=>e=.returned (.tuple #[])/\Wrote w w' g v (l++Zd4 n bits first):=by
 obtain⟨i0,hi,hz0,hz1,hz2⟩:=info_parts Zbz
 have HI:=Hd hi
 have HZ0:=Hd hz0
 have HZ1:=Hd hz1
 have HZ2:=Hd hz2
 have H:=Hd h
 clear hi hz0 hz1 hz2 h
 go_enter func41,ntmps41
 go_wp2_with fail
 refine(Zng n bits first w).mono ?_
 rintro e w1 ⟨x,rfl,hox,hb1⟩
 obtain⟨A,c,rfl,hg⟩:=Zdg hox hb1
 clear hox hb1
 have hbk:=H.out.blk.below hg.2.2 H.out.blk.lt
 have c0:=hbk.cell 0
 have f0:=hbk.frozen 0
 have hlt:=hbk.lt
 have HO1:=Hd (Zk4 H.out.own hg.2.2)
 have HG:=Hd hg
 clear hg hbk
 go_wp2_with (at_builtin;refine Zah _ rfl _ _ 23 rfl 0 5 i0 (.int .u8 0) 1 1 underlying23 HI.out HZ0.out HZ1.out HZ2.out rfl (by decide) _ _ _ rfl HO1.out w1.heap.size A (Zd4 n bits first).length c (bs (Zd4 n bits first)) rfl HG.out.2.1 (Zit _) (by unfold maxLen;omega) (by omega) (Nat.zero_le _) ?_;intro v2 w2 hown2 hg2 hv2;obtain⟨A2,c2,rfl⟩:=Zas hown2;have hend:=Zo6 H.out HG.out.2.2 hown2 hg2 hv2;have c0:=hend.2.1;have f0:=hend.2.2.1;have hlt:=hend.2.2.2;have HEND:=Hd hend.1;clear hend)
 go_end0
 exact⟨rfl,HEND.out⟩
theorem Zxi {w:World}{g:Nat}{v:Value}{l:List UInt8}(h:Wr w g v l)(s:List UInt8)(hs:s.length<=140737488355328)(hl:l.length+(Zco s).length<=140737488355328):
  CA 43 #[.pointer (some ⟨g,0,none⟩),.string ⟨s.toArray⟩] w fun e w'=>e=.returned (.tuple #[])/\Wrote w w' g v (l++Zco s):=by
 obtain⟨i0,hi,hz0,hz1,hz2⟩:=info_parts Zbz
 have HI:=Hd hi
 have HZ0:=Hd hz0
 have HZ1:=Hd hz1
 have HZ2:=Hd hz2
 have H:=Hd h
 clear hi hz0 hz1 hz2 h
 go_enter func43,ntmps43
 go_wp2_with fail
 refine(Zea s w hs).mono ?_
 rintro e w1 ⟨A,c,rfl,hg⟩
 have hbk:=H.out.blk.below hg.2.2 H.out.blk.lt
 have c0:=hbk.cell 0
 have f0:=hbk.frozen 0
 have hlt:=hbk.lt
 have HO1:=Hd (Zk4 H.out.own hg.2.2)
 have HG:=Hd hg
 clear hg hbk
 go_wp2_with (at_builtin;refine Zah _ rfl _ _ 23 rfl 0 5 i0 (.int .u8 0) 1 1 underlying23 HI.out HZ0.out HZ1.out HZ2.out rfl (by decide) _ _ _ rfl HO1.out w1.heap.size A (Zco s).length c (bs (Zco s)) rfl HG.out.2.1 (Zit _) (by unfold maxLen;omega) (by omega) (Nat.zero_le _) ?_;intro v2 w2 hown2 hg2 hv2;obtain⟨A2,c2,rfl⟩:=Zas hown2;have hend:=Zo6 H.out HG.out.2.2 hown2 hg2 hv2;have c0:=hend.2.1;have f0:=hend.2.2.1;have hlt:=hend.2.2.2;have HEND:=Hd hend.1;clear hend)
 go_end0
 exact⟨rfl,HEND.out⟩
end
section
open Go.RowKit
def putM (w:World)(r:Nat)(es:Array MapEntry)(c:Nat):World:={w with heap:=w.heap.setIfInBounds r (.map es c)}
def Zcz (w:World)(r:Nat)(es:Array MapEntry)(c:Nat):Prop:=w.heap[r]? =some (.map es c)
section
variable {w w' w0:World} {r:Nat} {es es':Array MapEntry} {c c':Nat}
theorem Zcz.lt (h:Zcz w r es c):r < w.heap.size:=by
 rcases Nat.lt_or_ge r w.heap.size with h1 | h1
 ·exact h1
 ·unfold Zcz at h
  rw[Array.getElem?_eq_none h1]at h
  cases h
theorem Zfb :(putM w r es c).heap.size=w.heap.size:=by simp[putM]
theorem Zfc (h:Zcz w r es' c'):Zcz (putM w r es c) r es c:=by
 have:=h.lt
 simp[Zcz,putM,this]
theorem Zd8 {k:Nat}(h:k≠r):(putM w r es c).heap[k]? =w.heap[k]? :=by
 simp[putM,Array.getElem?_setIfInBounds_ne (Ne.symm h)]
theorem Zgu {B:Nat}(h:Below B w0 w)(hr:B<=r):Below B w0 (putM w r es c):=
 ⟨h.os,h.tape,h.output,by rw[Zfb];exact h.size,fun k hk=>(Zd8 (by omega)).trans (h.block k hk)⟩
theorem Zvz :w.grownBy (putM w r es c) (some r):=⟨rfl,rfl,rfl,by rw[Zfb];exact Nat.le_refl _,fun k _ hk=>Zd8 (fun e=>hk (by rw[e]))⟩
theorem Zcz.below {B:Nat}(h:Zcz w r es c)(hb:Below B w w')(hr:r < B):Zcz w' r es c:=(hb.block r hr).trans h
theorem Zcz.setCell (h:Zcz w r es c)(p:Addr)(v:Value):Zcz (w.setCell p v) r es c:=by
 unfold Zcz at h⊢
 by_cases hp:p.block=r
 ·simp[World.setCell,Array.getElem?_modify,hp,h]
 ·rw[<-h];exact Below.heap_setCell w p v r (fun e=>hp e.symm)
theorem Zcz.blk_ne {g:Nat}{T:TypeId}{cs:Array Value}(h:Zcz w r es c)(hb:Blk w g T cs):g≠r:=by
 rintro rfl
 unfold Zcz at h
 unfold Blk at hb
 rw[h]at hb
 cases hb
theorem Zcz.own_ne {base size n:Nat}{e:TypeId}{v:Value}{xs:List Value}(h:Zcz w r es c)(ho:w.ownsRow base e size v n xs):v.ownBlock≠some r:=by
 rcases ho.2 with⟨rfl,_⟩ | ⟨g,cap,cur,rfl,_,hh,_⟩
 ·simp[Value.ownBlock]
 ·intro e1
  have:g=r:=by simpa [Value.ownBlock]using e1
  subst this
  exact Zcz.blk_ne (T:=e) (cs:=cur) h hh rfl
theorem Blk.putM {g:Nat}{T:TypeId}{cs:Array Value}(hb:Blk w g T cs)(h:Zcz w r es' c'):Blk (putM w r es c) g T cs:=(Zd8 (h.blk_ne hb)).trans hb
theorem own_putM {base size n:Nat}{e:TypeId}{v:Value}{xs:List Value}(ho:w.ownsRow base e size v n xs)(h:Zcz w r es' c'):(putM w r es c).ownsRow base e size v n xs:=
 ho.kept (row:=some r) Zvz (.inr (h.own_ne ho))
end
def Zlv :TypeDesc->Bool
 | .string | .int _=>true
 | _=>false
section
variable {P:Program} {w:World} {t kt et:TypeId} {kd:TypeDesc} {r:Nat} {es:Array MapEntry} {clock:Nat} {k:Value}
theorem Zdr (e:Bool)(hk:P.underlying kt=some kd)(ho:Zlv kd=true):(Instr.checkKey e 10000 kt k).run P w=.ok () w:=by
 cases kd <;> first | (cases ho;done) | (unfold Instr.checkKey;simp[run_underlying hk])
theorem Zeg (hk:P.underlying kt=some kd){z:Option (Nat×Value)}(hf:Instr.findNow kd k es.toList 0=some z):(Instr.findKey kt k es.toList).run P w=.ok z w:=by
 unfold Instr.findKey
 simp[run_underlying hk,hf]
theorem Zcr (hm:P.underlying t=some (.map kt et))(hk:P.underlying kt=some kd)(ho:Zlv kd=true)(hb:w.heap[r]? =some (.map es clock)){i:Nat}{v:Value}(hf:Instr.findNow kd k es.toList 0=some (some (i,v)))(ok:Bool):
  (Instr.lookup t (.map (some r)) k ok).run P w=.ok (if ok then .tuple #[v,.bool true]else v) w:=by
 unfold Instr.lookup
 simp[run_underlying hm,MapKept.run_getObj_map hb,Result.andThen,Zdr _ hk ho,Zeg hk hf]
theorem Zca (hm:P.underlying t=some (.map kt et))(hk:P.underlying kt=some kd)(ho:Zlv kd=true)(hb:w.heap[r]? =some (.map es clock))(hf:Instr.findNow kd k es.toList 0=some none){z:Value}(hz:(zeroValue et).run P w=.ok z w)(ok:Bool):
  (Instr.lookup t (.map (some r)) k ok).run P w=.ok (if ok then .tuple #[z,.bool false]else z) w:=by
 unfold Instr.lookup
 simp[run_underlying hm,MapKept.run_getObj_map hb,Result.andThen,Zdr _ hk ho,Zeg hk hf,hz]
theorem Za9 (hm:P.underlying t=some (.map kt et))(hk:P.underlying kt=some kd)(ho:Zlv kd=true)(hb:w.heap[r]? =some (.map es clock))(hf:Instr.findNow kd k es.toList 0=some none)(v:Value):
  (Instr.mapUpdate t (.map (some r)) k v).run P w=.ok () (putM w r (es.push ⟨k,v,clock⟩) (clock+1)):=by
 unfold Instr.mapUpdate
 simp[run_underlying hm,MapKept.run_getObj_map hb,Result.andThen,Zdr _ hk ho,Zeg hk hf,MapKept.run_setObj_map _ hb,putM]
theorem Zkr (hm:P.underlying t=some (.map kt et))(hk:P.underlying kt=some kd)(ho:Zlv kd=true)(hb:w.heap[r]? =some (.map es clock)){i:Nat}{v0:Value}(hf:Instr.findNow kd k es.toList 0=some (some (i,v0)))(hs:Instr.sameBits 10000 (((es[i]?).map (·.key)).getD k) k=true)(v:Value):
  (Instr.mapUpdate t (.map (some r)) k v).run P w=.ok () (putM w r (es.modify i fun e=>{e with key:=k,val:=v}) clock):=by
 unfold Instr.mapUpdate
 simp[run_underlying hm,MapKept.run_getObj_map hb,Result.andThen,Zdr _ hk ho,Zeg hk hf,Instr.keyThatStays,hs,MapKept.run_setObj_map _ hb,putM]
theorem Zry (ty:TypeId)(hm:P.underlying t=some (.map kt et))(hk:P.underlying kt=some kd)(ho:Zlv kd=true)(hb:w.heap[r]? =some (.map es clock)){i:Nat}{v0:Value}(hf:Instr.findNow kd k es.toList 0=some (some (i,v0))):
  (Builtin.delete_ #[t,kt] ty #[.map (some r),k]).run P w=.ok (.tuple #[]) (putM w r (es.eraseIdxIfInBounds i) clock):=by
 unfold Builtin.delete_
 simp[run_underlying hm,MapKept.run_getObj_map hb,Result.andThen,Zdr _ hk ho,Zeg hk hf,MapKept.run_setObj_map _ hb,putM]
theorem Zj2 (ty:TypeId)(hm:P.underlying t=some (.map kt et))(hb:w.heap[r]? =some (.map es clock)):
  (Builtin.len_ #[t] ty #[.map (some r)]).run P w=.ok (goInt es.size) w:=by
 unfold Builtin.len_
 simp[run_underlying hm,MapKept.run_getObj_map hb,Result.andThen]
end
theorem Zfo (b:Nat):∀(vs:List Value) (o:Nat) (w:World),(w.setCells b o vs).heap.size=w.heap.size
 | [],_,_=>rfl
 | v::r,o,w=>by rw[World.setCells,Zfo b r];simp[World.setCell]
theorem Zhp {B b:Nat}{w:World}(hb:B<=b):∀(vs:List Value) (o:Nat) (w1:World),Below B w w1->Below B w (w1.setCells b o vs)
 | [],_,_,h=>h
 | v::r,o,w1,h=>by rw[World.setCells];exact Zhp hb r (o+1) _ (h.setCell (p:=⟨b,o,none⟩) hb v)
theorem wpList_append_run {P:Program}{ops:Array Oper}{rest:List Oper}{o:Oper}{a:Act}{Q:Exit->Act->World->Prop}{w:World}(hgd:o.guard=none)(s x:Operand)(t:TypeId)
  (ho:o.op=.call {callee:=.builtin .append,args:= #[s,x],argTypes:= #[t,t]}) (v0 x0:Value) (hs:a.eval s=v0) (hx:a.eval x=x0) (v':Value) (w':World)
  (hrun:(Builtin.append_ #[t,t] o.type #[v0,x0]).run P w=.ok v' w') (h:wpList P ops Q rest (a.put o.dst v') w'):wpList P ops Q (o::rest) a w:=
 wpList_plain hgd fun _ hK=>by
  unfold Oper.wp execOp
  simp only[ho,resolve,invoke,builtin,Sem.run_bind,Sem.run_pure,Result.andThen_ok,List.map_toArray,List.map_cons,List.map_nil,hs,hx,hrun]
  exact hK _ _ h
def Zne (W W2:World)(v:Value)(l:List UInt8):Prop:=∃ad c,v=.slice (some ad) l.length c/\l.length<=c/\W.heap.size<=ad.block/\ad.block < W2.heap.size/\Zab W2 W2.heap.size 1 (some ad) l.length (bs l)/\Below W.heap.size W W2
theorem Zdj (ty:TypeId)(W:World)(l:List UInt8)(A:Option Addr)(cc:Nat)(news:List UInt8)(hr:Zab W W.heap.size 1 A news.length (bs news))(hb:l.length+news.length<=140737488355328):
  ∃c W1,(convert 9 23 (.string ⟨l.toArray⟩)).run prog W=.ok (.slice (some ⟨W.heap.size,0,none⟩) l.length c) W1/\Below W.heap.size W W1/\
   ∃v W2,(Builtin.append_ #[23,23] ty #[.slice (some ⟨W.heap.size,0,none⟩) l.length c,.slice A news.length cc]).run prog W1=.ok v W2/\Zne W W2 v (l++news):=by
 obtain⟨i,hi,hz0,hz1,hz2⟩:=info_parts Zbz
 have h:=Lib.run_convert_string_bytes (P:=prog) W 9 23 5 ⟨l.toArray⟩ underlying9 underlying23 underlying5
 have hs:(ByteArray.mk l.toArray).size=l.length:=rfl
 rw[hs]at h
 have hcap:=grownCap_ge W l.length 0 5
 obtain⟨c,hc⟩:=exl (grownCap W l.length 0 5)
 obtain⟨W1,hW1⟩:=exl (Lib.bytesWorld W 5 ⟨l.toArray⟩)
 have hbw:Below W.heap.size W W1:=by
  rw[<-hW1]
  refine⟨?_,?_,?_,by rw[Lib.bytesWorld_size];omega,fun k hk=>Lib.bytesWorld_at_old _ _ _ k hk⟩
  all_goals simp[Lib.bytesWorld,World.freeze,World.alloc,World.drew,-World.alloc_eq,-World.drew_eq]
 have hsz1:W1.heap.size=W.heap.size+1:=by rw[<-hW1,Lib.bytesWorld_size]
 have hnew:=Lib.bytesWorld_at_new W 5 ⟨l.toArray⟩
 obtain⟨cur,hcur⟩:=exl (Lib.bytesCells W 5 ⟨l.toArray⟩)
 have hcsz:cur.size=c:=by
  rw[<-hcur]
  simp only[Lib.bytesCells,Array.size_append,Array.size_map,Array.size_replicate,List.size_toArray,hs,hc]
  rw[hc]at hcap
  omega
 have holds:∀j u,(bs l)[j]? =some u->W1.cell? ((⟨W.heap.size,0,none⟩:Addr).add j)=some u:=by
  intro j u hu
  have hj:j < l.length:=by
   have:=(List.getElem?_eq_some_iff.1 hu).1
   simpa [bs]using this
  rw[Addr.add_lit,Nat.zero_add,<-hW1,Lib.bytesWorld_cell _ _ _ _ (by rw[hs];exact hj),<-hu,Zxa l hj]
  simp[hj]
 rw[hW1,hcur]at hnew
 rw[hW1,hc]at h
 rw[hc]at hcap
 clear hW1 hc hcur
 refine⟨c,W1,h,hbw,?_⟩
 clear h
 have hr1:=hr.below hbw
 have hcell:∀j,j < c->(W1.cell? ⟨W.heap.size,j,none⟩).isSome=true:=by
  intro j hj
  rw[cell_of_row _ _ _ _ _ _ hnew,Array.getElem?_eq_getElem (by omega)]
  rfl
 have hfr:∀j,j < c->W1.frozen? ⟨W.heap.size,j,none⟩=false:=by
  intro j hj
  have:¬cur.size<=j:=by omega
  simp[World.frozen?,hnew,this]
 cases A with
 | none=>
  have h0:news.length=0:=by
   rcases Nat.eq_zero_or_pos news.length with h | h
   ·exact h
   ·obtain⟨ad,e,_⟩:=hr.2 h
    cases e
  have hn:news=[]:=List.eq_nil_of_length_eq_zero h0
  subst hn
  refine⟨.slice (some ⟨W.heap.size,0,none⟩) l.length c,W1,?_,⟨⟨W.heap.size,0,none⟩,c,by simp,by simpa using hcap,Nat.le_refl _,(show W.heap.size < W1.heap.size by omega),?_,hbw⟩⟩
  ·simp[Builtin.append_,run_underlying underlying23,sizeOf,typeInfo,hi,Builtin.lenOf,Builtin.firstCells,hcap,storeCells]
  ·simp only[List.append_nil]
   exact⟨by simp[bs],fun _=>⟨_,rfl,(show W.heap.size < W1.heap.size by omega),holds⟩⟩
 | some ad=>
  have hnews:∀j u,(bs news)[j]? =some u->W1.cell? (ad.add j)=some u:=by
   intro j u hu
   have hj:0 < news.length:=by
    have:=(List.getElem?_eq_some_iff.1 hu).1
    simp[bs]at this
    omega
   obtain⟨ad',e,_,hcc⟩:=hr1.2 hj
   injection e with e
   subst e
   exact hcc j u hu
  by_cases hroom:l.length+news.length<=c
  ·have hf:=run_firstCells_some (P:=prog) W1 1 news.length ad news.length cc (bs news) (by simp[bs]) hnews
   have hst:=run_storeCells_cells (P:=prog) W.heap.size l.length (bs news) 0 W1 (fun j hj=>hcell _ (by simp[bs]at hj;omega)) (fun j hj=>hfr _ (by simp[bs]at hj;omega)) (Zit news)
   simp only[Nat.add_zero]at hst
   refine⟨.slice (some ⟨W.heap.size,0,none⟩) (l.length+news.length) c,W1.setCells W.heap.size l.length (bs news),?_,⟨⟨W.heap.size,0,none⟩,c,by simp,by simpa using hroom,Nat.le_refl _,(show W.heap.size < (W1.setCells W.heap.size l.length (bs news)).heap.size by rw[Zfo];omega),?_,Zhp (Nat.le_refl _) _ _ _ hbw⟩⟩
   ·simp[Builtin.append_,run_underlying underlying23,sizeOf,typeInfo,hi,hz1,Builtin.lenOf,hroom,hf,Addr.add_lit,hst]
   ·rw[Za1,List.length_append]
    refine⟨by simp[bs],fun _=>⟨_,rfl,(show W.heap.size < (W1.setCells W.heap.size l.length (bs news)).heap.size by rw[Zfo];omega),fun j u hu=> ?_⟩⟩
    rw[Addr.add_lit,Nat.zero_add]
    by_cases hj:j < l.length
    ·rw[World.cell?_setCells_out _ _ _ _ _ (fun _ _=> .inl hj)]
     have:=holds j u (by rwa [List.getElem?_append_left (by simpa [bs]using hj)]at hu)
     rwa [Addr.add_lit,Nat.zero_add]at this
    ·have hlt:=(List.getElem?_eq_some_iff.1 hu).1
     rw[List.getElem?_append_right (by simp[bs];omega)]at hu
     have hj2:j-l.length < (bs news).length:=by
      have:=(List.getElem?_eq_some_iff.1 hu).1
      simpa [Zq5]using this
     have:=World.cell?_setCells_in W.heap.size (bs news) l.length W1 (fun i hi=>hcell _ (by simp[bs]at hi;omega)) (j-l.length) hj2
     rw[show l.length+(j-l.length)=j by omega]at this
     rw[this,<-hu,Zq5,List.getElem?_eq_getElem hj2]
  ·have hrun:=run_append_grow (P:=prog) W1 23 ty 5 i (.int .u8 0) underlying23 hi hz0 ⟨W.heap.size,0,none⟩ l.length c (bs l) (by rw[hz1];simp[bs]) holds ad news.length cc (bs news) (by rw[hz1];simp[bs]) hnews (by omega) (by omega) (by rw[hz2];exact growslice_fits (by omega) (by omega))
   refine⟨_,_,hrun,⟨⟨W1.heap.size,0,none⟩,_,by rw[List.length_append],by rw[List.length_append];exact grownCap_ge _ _ _ _,hbw.size,by simp,?_,?_⟩⟩
   ·rw[Za1,List.length_append]
    refine⟨by simp[bs],fun _=>⟨_,rfl,by simp,fun j u hu=> ?_⟩⟩
    rw[Addr.add_lit,Nat.zero_add]
    have hlt:=(List.getElem?_eq_some_iff.1 hu).1
    rw[show W1.heap.size=W1.drew.heap.size from rfl,cell_of_row _ _ _ _ _ _ (heap_alloc_new W1.drew _)]
    rw[<-hu,Array.getElem?_append_left (by simpa using hlt)]
    simp
   ·exact hbw.drew.alloc hbw.size _
structure WIn (C:World->Prop) where
 w:World
 h:C w
theorem Zd3 {P:Program}{id:Nat}{Q:Exit->Act->World->Prop}{a:Act}{w:World}{l:List Oper}(C0:World->Prop)(hm:P.follows .mixedOrders=true)(hB:Region.lexB .any l.toArray=true)(hC:C0 w.drew)
  (h:Nonempty (WIn C0)->wpQuiet P l.toArray (fun w'=>∃x:WIn C0,w'=x.w) (fun a'=>∀w',(∃x:WIn C0,w'=x.w)->Q .normal a' w') l a):(Code.region id l.toArray true).wp P Q a w:=
 wp_region_quiet (C:=fun w'=>∃x:WIn C0,w'=x.w) hm hB ⟨⟨_,hC⟩,rfl⟩ (by simpa using h ⟨⟨_,hC⟩⟩)
theorem Zcg {P:Program}{f:FuncId}{args:Array Value}{C0:World->Prop}{x:WIn C0}{v:Value}{R:Ending->World->Prop}(h:Calls P f args x.w R)(hR:∀e w',R e w'->e=.returned v/\C0 w'):
  Calls P f args x.w fun e w''=>e=.returned v/\∃y:WIn C0,w''=y.w:=
 h.mono fun e w' hr=>⟨(hR e w' hr).1,⟨_,(hR e w' hr).2⟩,rfl⟩
end
section
open Go.RowKit
variable {qo:Value×Value×Value}
variable {qq:Value×Value}
attribute [local go_sem ↓] Go.wp_at_zero Go.wp_at_succ
def szs (ps:List Nat):List Value:=ps.map fun p=> .int .i64 ((p:Nat):Int)
structure Znd (w:World)(C g:Nat)(A:Option Addr)(c:Nat)(Sv:Value)(xs:List Fld)(mx:Nat)(ps:List Nat)(qo:Value×Value×Value):Prop where
 blk:Blk w C 93 #[.pointer (some ⟨g,0,none⟩),qo.1,qo.2.1,Sv,qo.2.2]
 tab:Tab w g A c xs mx
 row:w.ownsRow 0 3 1 Sv ps.length (szs ps)
def Zl1 (C g:Nat)(A:Option Addr)(Sv:Value)(k:Nat):Prop:=k=C∨Zhs g A k∨Sv.ownBlock=some k
structure CIn (w:World)(C h:Nat)(A:Option Addr)(c:Nat)(ys:List Fld)(my most:Nat)(bad:Bool)(qq:Value×Value):Prop where
 blk:Blk w C 93 #[qq.1,.pointer (some ⟨h,0,none⟩),.int .i64 ((most:Nat):Int),qq.2,.bool bad]
 tab:Tab w h A c ys my
def Zmb (C h:Nat)(A:Option Addr)(k:Nat):Prop:=k=C∨Zhs h A k
section
variable {w w':World} {C g h:Nat} {A:Option Addr} {c:Nat} {Sv:Value} {xs ys:List Fld} {mx my most:Nat} {ps:List Nat} {bad:Bool} {S:Nat->Prop}
theorem Znd.keep (H:Znd w C g A c Sv xs mx ps qo)(hk:Zax S w w')(hS:∀k,Zl1 C g A Sv k->¬S k):Znd w' C g A c Sv xs mx ps qo:=by
 obtain⟨hb,ht,hr⟩:=H
 exact⟨hb.keep hk (hS C (.inl rfl)),ht.keep hk fun k h=>hS k (.inr (.inl h)),Za3 hr hk fun k h=>hS k (.inr (.inr h))⟩
theorem Znd.below (H:Znd w C g A c Sv xs mx ps qo)(hb:Below w.heap.size w w'):Znd w' C g A c Sv xs mx ps qo:=H.keep (S:=fun _=>False) (Zax.of_below hb) fun _ _ h=>h
theorem Znd.lt (H:Znd w C g A c Sv xs mx ps qo):∀k,Zl1 C g A Sv k->k < w.heap.size:=by
 obtain⟨hb,ht,hr⟩:=H
 rintro k (rfl | hk | hk)
 ·exact hb.lt
 ·exact ht.lt k hk
 ·exact(hr.lt k hk).2
theorem CIn.keep (H:CIn w C h A c ys my most bad qq)(hk:Zax S w w')(hS:∀k,Zmb C h A k->¬S k):CIn w' C h A c ys my most bad qq:=by
 obtain⟨hb,ht⟩:=H
 exact⟨hb.keep hk (hS C (.inl rfl)),ht.keep hk fun k h=>hS k (.inr h)⟩
theorem CIn.below (H:CIn w C h A c ys my most bad qq)(hb:Below w.heap.size w w'):CIn w' C h A c ys my most bad qq:=H.keep (S:=fun _=>False) (Zax.of_below hb) fun _ _ h=>h
theorem CIn.lt (H:CIn w C h A c ys my most bad qq):∀k,Zmb C h A k->k < w.heap.size:=by
 obtain⟨hb,ht⟩:=H
 rintro k (rfl | hk)
 ·exact hb.lt
 ·exact ht.lt k hk
theorem Znd.ne (H:Znd w C g A c Sv xs mx ps qo):¬Zhs g A C/\Sv.ownBlock≠some C/\∀k,Sv.ownBlock=some k->¬Zhs g A k:=by
 obtain⟨hb,ht,hr⟩:=H
 have h1:¬Zhs g A C:=by
  rintro(rfl | ⟨a,ha,he⟩)
  ·exact Blk.ne_ hb ht.blk (by decide) rfl
  ·have:=Zao ht.own hb (by decide)
   rw[ha]at this
   exact this (by simp[Value.ownBlock,he])
 refine⟨h1,Zao hr hb (by decide),fun k hk=> ?_⟩
 rcases hr.2 with⟨rfl,_⟩ | ⟨q,cap,cur,rfl,_,hq,_⟩
 ·simp[Value.ownBlock]at hk
 ·have e:q=k:=by simpa [Value.ownBlock]using hk
  subst e
  have hqb:Blk w q 3 cur:=hq
  rintro(rfl | ⟨a,ha,he⟩)
  ·exact Blk.ne_ hqb ht.blk (by decide) rfl
  ·have:=Zao ht.own hqb (by decide)
   rw[ha]at this
   exact this (by simp[Value.ownBlock,he])
end
theorem cnew_yes (m:Nat)(hm:m<=4096)(w:World):
  CA 9 #[.int .i64 (m:Int)] w fun e w'=>∃C g h,e=.returned (.tuple #[.pointer (some ⟨C,0,none⟩),.nilIface])/\Znd w' C g none 0 (.slice none 0 0) [] m [] (.pointer (some ⟨h,0,none⟩),.int .i64 ((m:Nat):Int),.bool false)/\CIn w' C h none 0 [] m m false (.pointer (some ⟨g,0,none⟩),.slice none 0 0)/\
   Below w.heap.size w w'/\w.heap.size<=C/\w.heap.size<=g/\w.heap.size<=h/\h≠g/\h≠C:=by
 go_enter func9,ntmps9
 go_wp2_with fail
 refine(Zzm m hm w).mono ?_
 rintro e w1 ⟨rfl,hT1,hb1,-⟩
 have HT1:=Hd hT1
 have HB1:=Hd hb1
 clear hT1 hb1
 go_wp2_with fail
 refine(Zzm m hm w1).mono ?_
 rintro e w2 ⟨rfl,hT2,hb2,-⟩
 have HT2:=Hd hT2
 have HB2:=Hd hb2
 clear hT2 hb2
 go_wp2
 go_ret2
 have hb3:=(Below.refl w2.heap.size w2).alloc (Nat.le_refl _) (.cells #[.pointer (some ⟨w.heap.size,0,none⟩),.pointer (some ⟨w1.heap.size,0,none⟩),.int .i64 ((m:Nat):Int),.slice none 0 0,.bool false] 93)
 have s1:=HB1.out.size
 have s2:=HB2.out.size
 refine⟨w2.heap.size,w.heap.size,w1.heap.size,rfl,⟨Blk.new w2 _ _,(HT1.out.below HB2.out).below hb3,World.ownsRow_nil _ _ _ _⟩,⟨Blk.new w2 _ _,HT2.out.below hb3⟩,
  (HB1.out.trans (HB2.out.mono s1)).trans (hb3.mono (by omega)),by omega,by omega,by omega,by have:=HT1.out.blk.lt;omega,by have:=HT2.out.blk.lt;omega⟩
theorem Zg0 :(prog.info? 3).map (fun i=>(i.zero,i.size,i.bytes))=some (some (.int .i64 0),1,8):=by kernel_rfl
end
section
theorem Zp7 :∀(r:List Nat) (p:Nat),Zf4 p r<=p/\∀q∈r,Zf4 p r<=q:=by
 intro r
 induction r with
 | nil=>intro p;simp[Zf4]
 | cons q r ih=>
  intro p
  have e:Zf4 p (q::r)=Zf4 (min p q) r:=rfl
  rw[e]
  obtain⟨h1,h2⟩:=ih (min p q)
  refine⟨by omega,fun x hx=> ?_⟩
  rcases List.mem_cons.1 hx with rfl | hx
  ·omega
  ·exact h2 x hx
theorem Zuh (n t f:Nat)(ht:1<=t)(ht8:t<=8)(hn:n<=2147483647)(hf:f % 2 ^ t=0)(hf2:f<=255):Zd4 (n:Int) (t:Int) (f:Int)=Zc9 n t f:=by
 have hk:Zjw (n:Int) (t:Int) (f:Int):=by
  refine⟨by omega,by omega,by omega,by omega,by omega,by omega,?_⟩
  rw[Int.toNat_natCast]
  have e:((2:Int) ^ t)=((2 ^ t:Nat):Int):=by simp
  rw[e]
  omega
 rw[Zd4,if_pos hk,Int.toNat_natCast,Int.toNat_natCast,Int.toNat_natCast]
theorem putL7 (n:Nat)(hn:n<=2147483647):Zd4 (n:Int) 7 128=Zc9 n 7 128:=Zuh n 7 128 (by omega) (by omega) hn (by decide) (by omega)
theorem putL6 (n:Nat)(hn:n<=2147483647):Zd4 (n:Int) 6 64=Zc9 n 6 64:=Zuh n 6 64 (by omega) (by omega) hn (by decide) (by omega)
theorem Zye {p:Fld->Bool}{xs:List Fld}(h:fnd p (Zb9 xs)≠0):p ((Zb9 xs).getD (fnd p (Zb9 xs)-1) ([],[]))=true/\fnd p (Zb9 xs)<=12+xs.length:=by
 obtain⟨hk,hp⟩:=fnd_some h
 refine⟨?_,by rw[<-Zcx];omega⟩
 rw[List.getD_eq_getElem?_getD,List.getElem?_eq_getElem hk,Option.getD_some]
 exact hp
theorem Zzp (xs:List Fld)(f:Fld)(rest:List UInt8)(hx:xs.length<=4096)(h1:f.1.length<=400)(h2:f.2.length<=400):
  Zj6 xs (Zc9 (fnd (isN f) (Zb9 xs)) 6 64++(if fnd (isN f) (Zb9 xs)=0 then Zco f.1 else [])++Zco f.2++rest) 6=
   (f,(Zc9 (fnd (isN f) (Zb9 xs)) 6 64++(if fnd (isN f) (Zb9 xs)=0 then Zco f.1 else [])++Zco f.2).length,0):=by
 have hle:=Zhl (isN f) (Zb9 xs)
 rw[Zcx]at hle
 have hat:= @Zye (isN f) xs
 generalize fnd (isN f) (Zb9 xs)=n at*
 obtain⟨g1,_,_,_⟩:=Zfh n 6 64 ((if n=0 then Zco f.1 else [])++(Zco f.2++rest)) (by omega) (by omega) (by omega) (by decide) (by omega)
 have e:Zc9 n 6 64++(if n=0 then Zco f.1 else [])++Zco f.2++rest=Zc9 n 6 64++((if n=0 then Zco f.1 else [])++(Zco f.2++rest)):=by
  simp only[List.append_assoc]
 have g1':Zbi (Zc9 n 6 64++((if n=0 then Zco f.1 else [])++(Zco f.2++rest))) 6=(n,(Zc9 n 6 64).length,0):=g1
 rw[e]
 unfold Zj6
 simp only[g1',List.drop_left]
 rw[if_neg (by simp),if_neg (by omega)]
 by_cases hn:n=0
 ·have hr1:=Zkx f.1 (Zco f.2++rest) h1
  have hr2:=Zkx f.2 rest h2
  have hd:(Zc9 n 6 64++(Zco f.1++(Zco f.2++rest))).drop ((Zc9 n 6 64).length+(Zco f.1).length)=Zco f.2++rest:=by
   rw[<-List.length_append,<-List.append_assoc,List.drop_left]
  rw[if_neg (by omega),if_pos hn,hr1]
  simp only[hd,hr2]
  rw[if_neg (by simp),if_neg (by simp)]
  simp only[List.length_append]
 ·have hr:=Zkx f.2 rest h2
  obtain⟨hat,_⟩:=hat hn
  rw[if_pos (by omega),if_neg hn,List.nil_append,hr]
  simp only
  rw[if_neg (by simp)]
  have hname:((Zb9 xs).getD (n-1) ([],[])).1=f.1:=by simpa [isN]using hat
  rw[hname]
  simp only[List.length_append,List.append_nil]
theorem saidF_ne (mx:Nat)(xs:List Fld)(f:Fld)(hx:xs.length<=4096):Zdd mx xs f≠[]:=by
 have hle1:=Zhl (isF f) (Zb9 xs)
 have hle2:=Zhl (isN f) (Zb9 xs)
 rw[Zcx]at hle1 hle2
 unfold Zdd
 split
 ·rw[putL7 _ (by omega)]
  exact(Zfh _ 7 128 [] (by omega) (by omega) (by omega) (by decide) (by omega)).2.2.2
 ·rw[putL6 _ (by omega)]
  have:=(Zfh (fnd (isN f) (Zb9 xs)) 6 64 [] (by omega) (by omega) (by omega) (by decide) (by omega)).2.2.2
  simp[this]
theorem Zsn (most mx:Nat)(xs l:List Fld)(f:Fld)(rest:List UInt8)(hx:xs.length<=4096)(h1:f.1.length<=400)(h2:f.2.length<=400):
  Za5 most xs mx l (Zdd mx xs f++rest)=Zkz (Zem mx xs f) mx l f (Zdd mx xs f).length:=by
 have hle1:=Zhl (isF f) (Zb9 xs)
 have hle2:=Zhl (isN f) (Zb9 xs)
 rw[Zcx]at hle1 hle2
 by_cases hw:fnd (isF f) (Zb9 xs)≠0
 ·obtain⟨hat,_⟩:=Zye hw
  have hf:(Zb9 xs).getD (fnd (isF f) (Zb9 xs)-1) ([],[])=f:=by simpa [isF]using hat
  have e:Zdd mx xs f=Zc9 (fnd (isF f) (Zb9 xs)) 7 128:=by
   rw[Zdd,if_pos hw]
   exact putL7 _ (by omega)
  obtain⟨g1,g2,g3,_⟩:=Zfh (fnd (isF f) (Zb9 xs)) 7 128 rest (by omega) (by omega) (by omega) (by decide) (by omega)
  have g1':Zbi (Zc9 (fnd (isF f) (Zb9 xs)) 7 128++rest) 7=(fnd (isF f) (Zb9 xs),(Zc9 (fnd (isF f) (Zb9 xs)) 7 128).length,0):=g1
  rw[e,Zem,if_pos hw]
  unfold Za5
  rw[if_pos (by omega),g1']
  simp only
  rw[if_neg (by simp),if_neg (by omega),hf]
 ·have e:Zdd mx xs f=Zc9 (fnd (isN f) (Zb9 xs)) 6 64++(if fnd (isN f) (Zb9 xs)=0 then Zco f.1 else [])++Zco f.2:=by
   rw[Zdd,if_neg hw]
   rw[putL6 _ (by omega)]
  have hl:=Zzp xs f rest hx h1 h2
  obtain⟨_,g2,g3,_⟩:=Zfh (fnd (isN f) (Zb9 xs)) 6 64 ((if fnd (isN f) (Zb9 xs)=0 then Zco f.1 else [])++(Zco f.2++rest)) (by omega) (by omega) (by omega) (by decide) (by omega)
  rw[<-e]at hl
  have e2:Zdd mx xs f++rest=Zc9 (fnd (isN f) (Zb9 xs)) 6 64++((if fnd (isN f) (Zb9 xs)=0 then Zco f.1 else [])++(Zco f.2++rest)):=by
   rw[e];simp only[List.append_assoc]
  rw[<-e2]at g2 g3
  unfold Za5
  rw[if_neg (by omega),if_pos (by omega),hl]
  simp only
  rw[if_neg (by simp),Zem,if_neg hw]
theorem Zpc {a b:List Fld}(h:Za2 (a++b)=false):Za2 a=false:=by
 simp only[Za2,Bool.or_eq_false_iff,decide_eq_false_iff_not,List.length_append,Zkh]at h⊢
 omega
theorem wt_nextF (mx:Nat)(xs:List Fld)(f:Fld)(h:wt xs<=mx):wt (Zem mx xs f)<=mx:=by
 unfold Zem
 split
 ·exact h
 ·exact Zrj mx xs f
theorem Zwm (most mx:Nat)(hm:mx<=4096):∀(l:List Fld) (xs acc:List Fld),wt xs<=mx->Za2 (acc++l)=false->Zci l=false->
  heard most xs mx acc (Za0 mx xs l)=⟨0,Zcs mx xs l,mx,acc++l,0⟩:=by
 intro l
 induction l with
 | nil=>
  intro xs acc _ _ _
  simp only[Za0,Zcs,List.append_nil]
  exact Zqa _ _ _ _
 | cons f l ih=>
  intro xs acc hx ht hl
  have hxl:=Zmj xs
  simp only[Zci,List.any_cons,Bool.or_eq_false_iff,decide_eq_false_iff_not]at hl
  have hs:=Zsn most mx xs acc f (Za0 mx (Zem mx xs f) l) (by omega) (by omega) (by omega)
  have ht2:Za2 (acc++[f])=false:=by
   refine Zpc (b:=l) ?_
   rw[List.append_assoc]
   exact ht
  rw[Zkz,if_neg (by simp[ht2])]at hs
  have h0:Zdd mx xs f++Za0 mx (Zem mx xs f) l≠[]:=by simp[saidF_ne mx xs f (by omega)]
  simp only[Za0,Zcs]
  rw[Zm0 h0 (by rw[hs]),hs]
  simp only[List.drop_left]
  rw[ih (Zem mx xs f) (acc++[f]) (wt_nextF mx xs f hx) (by rw[List.append_assoc];exact ht) hl.2]
  simp
end
end Go.Proofs.YtbgnggkgmeagkaaGreatDoor
