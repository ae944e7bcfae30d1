/-
  A part of the proof of TopAlike: each theorem states its own conditions.
-/
import Derived.Test.YtbgnggkgmeagkaaGreatDoorMTopAlike07
import Derived.Deep.CutBlock
set_option linter.unusedSimpArgs false
set_option linter.unusedVariables false
set_option maxRecDepth 100000
set_option maxHeartbeats 16000000
namespace Go.Proofs.YtbgnggkgmeagkaaGreatDoor
open Go.Proofs.Tryz
section
open Go.RowKit
variable {qq:Value×Value}
structure DAt (w wr:World)(C h:Nat)(A A':Option Addr)(c' R B:Nat)(b:List UInt8)(ys:List Fld)(my most:Nat)(v:Value)(acc:List Fld)(qq:Value×Value):Prop where
 rd:Rd wr R B b
 ci:CIn wr C h A' c' ys my most false qq
 fr:∀k,Zmb C h A' k->Zmb C h A k∨w.heap.size<=k
 nR:¬Zmb C h A' R
 nv:∀k,v.ownBlock=some k->¬Zmb C h A' k
 row:wr.ownsRow w.heap.size 41 2 v acc.length (fvs acc)
 kp:Zax (Zmb C h A) w wr
 rb:w.heap.size<=R
 bw:B < w.heap.size
 bl:¬Zmb C h A' B
structure DFt (w wr:World)(C h:Nat)(A A':Option Addr)(c' R B:Nat)(b:List UInt8)(ys:List Fld)(my most:Nat)(v:Value)(acc:List Fld)(F:Nat)(x y:Value)(qq:Value×Value):Prop where
 d:DAt w wr C h A A' c' R B b ys my most v acc qq
 fl:Blk wr F 41 #[x,y]
 vF:v.ownBlock≠some F
 aF:¬Zmb C h A' F
 fw:w.heap.size<=F
section
variable {w wr w1:World} {C h R B my most c' F:Nat} {A A':Option Addr} {b b':List UInt8} {ys acc:List Fld} {v x y:Value}
theorem DAt.rlt (d:DAt w wr C h A A' c' R B b ys my most v acc qq):R < wr.heap.size:=by
 obtain⟨a,c,h1,_⟩:=d.rd
 exact h1.lt
theorem DAt.vR (d:DAt w wr C h A A' c' R B b ys my most v acc qq):v.ownBlock≠some R:=by
 obtain⟨a,c,h1,_⟩:=d.rd
 exact Zao d.row h1 (by decide)
theorem DAt.bR (d:DAt w wr C h A A' c' R B b ys my most v acc qq):R≠B:=by
 have h1:=d.bw
 have h2:=d.rb
 omega
theorem DAt.move {S:Nat->Prop}(d:DAt w wr C h A A' c' R B b ys my most v acc qq)(hk:Zax S wr w1)(h1:¬S R)(h2:∀k,Zmb C h A' k->¬S k)(h3:∀k,v.ownBlock=some k->¬S k)(h5:∀k,S k->w.heap.size<=k):DAt w w1 C h A A' c' R B b ys my most v acc qq:=
 ⟨d.rd.keep hk (fun hs=>by have:=h5 B hs;have:=d.bw;omega) h1,d.ci.keep hk h2,d.fr,d.nR,d.nv,Za3 d.row hk h3,d.kp.trans hk fun i hi=> .inr (h5 i hi),d.rb,d.bw,d.bl⟩
theorem DAt.next (d:DAt w wr C h A A' c' R B b ys my most v acc qq)(hb:Below wr.heap.size wr w1):DAt w w1 C h A A' c' R B b ys my most v acc qq:=
 d.move (S:=fun _=>False) (Zax.of_below hb) (fun h=>h) (fun _ _ h=>h) (fun _ _ h=>h) fun _ h=>h.elim
theorem DAt.read (d:DAt w wr C h A A' c' R B b ys my most v acc qq)(hr:Rd w1 R B b')(hk:Zax (fun k=>k=R) wr w1):DAt w w1 C h A A' c' R B b' ys my most v acc qq:=
 ⟨hr,d.ci.keep hk fun k hk he=>d.nR (he ▸ hk),d.fr,d.nR,d.nv,Za3 d.row hk fun k hk he=>d.vR (he ▸ hk),d.kp.trans hk fun i hi=> .inr (by rw[hi];exact d.rb),d.rb,d.bw,d.bl⟩
theorem DAt.noErr (d:DAt w wr C h A A' c' R B b ys my most v acc qq):DAt w (wr.setCell ⟨R,1,none⟩ .nilIface) C h A A' c' R B b ys my most v acc qq:=by
 obtain⟨h1,h2⟩:=Zug d.rd d.bR
 exact d.read h1 h2
theorem DAt.fld (d:DAt w wr C h A A' c' R B b ys my most v acc qq)(x y:Value):DFt w (wr.alloc (.cells #[x,y] 41)) C h A A' c' R B b ys my most v acc wr.heap.size x y qq:=by
 refine⟨d.next ((Below.refl _ _).alloc (Nat.le_refl _) _),Blk.new wr _ _,fun e=> ?_,fun e=> ?_,d.kp.size⟩
 ·have:=(d.row.lt _ e).2
  omega
 ·have:=d.ci.lt _ e
  omega
theorem DFt.fR (d:DFt w wr C h A A' c' R B b ys my most v acc F x y qq):F≠R:=by
 obtain⟨a,c,h1,_⟩:=d.d.rd
 exact Blk.ne_ d.fl h1 (by decide)
theorem DFt.next (d:DFt w wr C h A A' c' R B b ys my most v acc F x y qq)(hb:Below wr.heap.size wr w1):DFt w w1 C h A A' c' R B b ys my most v acc F x y qq:=
 ⟨d.d.next hb,d.fl.below hb d.fl.lt,d.vF,d.aF,d.fw⟩
theorem DFt.read (d:DFt w wr C h A A' c' R B b ys my most v acc F x y qq)(hr:Rd w1 R B b')(hk:Zax (fun k=>k=R) wr w1):DFt w w1 C h A A' c' R B b' ys my most v acc F x y qq:=
 ⟨d.d.read hr hk,d.fl.keep hk d.fR,d.vF,d.aF,d.fw⟩
theorem DFt.noErr (d:DFt w wr C h A A' c' R B b ys my most v acc F x y qq):DFt w (wr.setCell ⟨R,1,none⟩ .nilIface) C h A A' c' R B b ys my most v acc F x y qq:=
 ⟨d.d.noErr,d.fl.keep ((Zax.refl (fun k=>k=R) wr).setCell (p:=⟨R,1,none⟩) (.inl rfl) _) d.fR,d.vF,d.aF,d.fw⟩
theorem DFt.put (d:DFt w wr C h A A' c' R B b ys my most v acc F x y qq)(x' y':Value):DFt w ((wr.setCell ⟨F,0,none⟩ x').setCell ⟨F,1,none⟩ y') C h A A' c' R B b ys my most v acc F x' y' qq:=by
 have hk:Zax (fun k=>k=F) wr ((wr.setCell ⟨F,0,none⟩ x').setCell ⟨F,1,none⟩ y'):=((Zax.refl (fun k=>k=F) wr).setCell (p:=⟨F,0,none⟩) (.inl rfl) _).setCell (p:=⟨F,1,none⟩) (.inl rfl) _
 refine⟨d.d.move hk (fun e=>d.fR e.symm) (fun k hk he=>d.aF (he ▸ hk)) (fun k hk he=>d.vF (he ▸ hk)) (fun k he=> ?_),?_,d.vF,d.aF,d.fw⟩
 ·rw[he]
  exact d.fw
 ·have:=(d.fl.set_ 0 x').set_ 1 y'
  simpa using this
theorem DFt.add (d:DFt w wr C h A A' c' R B b ys my most v acc F x y qq)(f:Fld)(ha:Z12 wr w1 h A' my ys f):∃A2 c2,DFt w w1 C h A A2 c2 R B b (Zrs my ys f) my most v acc F x y qq:=by
 obtain⟨A2,c2,h1,h2,h3⟩:=ha
 obtain⟨rd,ci,fr,nR,nv,row,kp,rb,bw,bl⟩:=d.d
 have hRl:=d.d.rlt
 obtain⟨hb,ht⟩:=ci
 have hCt:¬Zhs h A' C:=by
  rintro(rfl | ⟨a,ha,he⟩)
  ·exact Blk.ne_ hb ht.blk (by decide) rfl
  ·have:=Zao ht.own hb (by decide)
   rw[ha]at this
   exact this (by simp[Value.ownBlock,he])
 have hn:∀k,k < wr.heap.size->¬Zmb C h A' k->¬Zmb C h A2 k:=by
  rintro k hk hn (rfl | ho)
  ·exact hn (.inl rfl)
  ·rcases h3 k ho with h4 | h4
   ·exact hn (.inr h4)
   ·omega
 refine⟨A2,c2,⟨rd.keep h2 (fun e=>bl (.inr e)) (fun e=>nR (.inr e)),⟨hb.keep h2 hCt,h1⟩,?_,hn R hRl nR,fun k hk=>hn k (row.lt k hk).2 (nv k hk),Za3 row h2 fun k hk ho=>nv k hk (.inr ho),kp.trans h2 fun i hi=>fr i (.inr hi),rb,bw,hn B (by have:=kp.size;omega) bl⟩,
  d.fl.keep h2 (fun e=>d.aF (.inr e)),d.vF,hn F d.fl.lt d.aF,d.fw⟩
 rintro k (rfl | ho)
 ·exact fr k (.inl rfl)
 ·rcases h3 k ho with h4 | h4
  ·exact fr k (.inr h4)
  ·exact .inr (Nat.le_trans kp.size h4)
theorem DAt.size (d:DAt w wr C h A A' c' R B b ys my most v acc qq){p:Nat}{zs:List Fld}(h1:Tab w1 h A' c' zs p)(h2:Zax (Zhs h A') wr w1):DAt w w1 C h A A' c' R B b zs p most v acc qq:=by
 obtain⟨rd,ci,fr,nR,nv,row,kp,rb,bw,bl⟩:=d
 obtain⟨hb,ht⟩:=ci
 have hCt:¬Zhs h A' C:=by
  rintro(rfl | ⟨a,ha,he⟩)
  ·exact Blk.ne_ hb ht.blk (by decide) rfl
  ·have:=Zao ht.own hb (by decide)
   rw[ha]at this
   exact this (by simp[Value.ownBlock,he])
 exact⟨rd.keep h2 (fun e=>bl (.inr e)) (fun e=>nR (.inr e)),⟨hb.keep h2 hCt,h1⟩,fr,nR,nv,Za3 row h2 fun k hk ho=>nv k hk (.inr ho),kp.trans h2 fun i hi=>fr i (.inr hi),rb,bw,bl⟩
theorem DAt.push (d:DAt w wr C h A A' c' R B b ys my most v acc qq)(f:Fld){v2:Value}{w2:World}(hown:w2.ownsRow w.heap.size 41 2 v2 (acc.length+1) (fvs acc++fv f))(hg:wr.grownBy w2 v.ownBlock)(hv:v2.ownBlock=v.ownBlock∨v2.ownBlock=some wr.heap.size):DAt w w2 C h A A' c' R B b ys my most v2 (acc++[f]) qq:=by
 have hk:Zax (fun k=>v.ownBlock=some k) wr w2:=(Zax.refl (fun k=>v.ownBlock=some k) wr).grown hg fun k hk=> .inl hk
 have hvw:∀k,v.ownBlock=some k->w.heap.size<=k:=fun k hk=>(d.row.lt k hk).1
 refine⟨d.rd.keep hk (fun e=>by have:=hvw B e;have:=d.bw;omega) d.vR,d.ci.keep hk fun k hk he=>d.nv k he hk,d.fr,d.nR,fun k hk hi=> ?_,?_,d.kp.trans hk fun i hi=> .inr (hvw i hi),d.rb,d.bw,d.bl⟩
 ·rcases hv with e | e
  ·exact d.nv k (by rw[<-e];exact hk) hi
  ·rw[e]at hk
   cases hk
   have:=d.ci.lt _ hi
   omega
 ·rw[List.length_append,Zg4]
  simpa [fvs]using hown
theorem DAt.cells (d:DAt w wr C h A A' c' R B b ys my most v acc qq):(∃a c,wr.cell? ⟨R,0,none⟩=some (.slice a b.length c)/\(0 < b.length->∃bb off,a=some ⟨bb,off,none⟩/\wr.cell? ⟨bb,off,none⟩=some (.int .u8 (((b.headD 0).toNat:Nat):Int))))/\wr.cell? ⟨R,1,none⟩=some .nilIface/\wr.frozen? ⟨R,1,none⟩=false/\R < wr.heap.size/\
  wr.cell? ⟨C,1,none⟩=some (.pointer (some ⟨h,0,none⟩))/\wr.cell? ⟨C,2,none⟩=some (.int .i64 ((most:Nat):Int))/\C < wr.heap.size:=by
 obtain⟨a,c,h1,h2,h3,-⟩:=d.rd
 obtain⟨hb,ht⟩:=d.ci
 refine⟨⟨a,c,h1.cell 0,fun h0=> ?_⟩,h1.cell 1,h1.frozen 1,h1.lt,hb.cell 1,hb.cell 2,hb.lt⟩
 obtain⟨bb,off,y0,rfl,_,hc,hh,_⟩:=Zgt h3 h0
 exact⟨bb,off,rfl,by rw[hh];exact hc⟩
theorem DFt.cells (d:DFt w wr C h A A' c' R B b ys my most v acc F x y qq):wr.cell? ⟨F,0,none⟩=some x/\wr.cell? ⟨F,1,none⟩=some y/\wr.frozen? ⟨F,0,none⟩=false/\wr.frozen? ⟨F,1,none⟩=false/\F < wr.heap.size:=
 ⟨d.fl.cell 0,d.fl.cell 1,d.fl.frozen 0,d.fl.frozen 1,d.fl.lt⟩
end
end
section
open Go.RowKit
theorem Zz6 (n:Nat)(hn:n*32<=140737488355328)(w:World):
  CA 145 #[.slice none 0 0,.int .i64 (n:Int)] w fun e w'=>∃v,e=.returned v/\w'.ownsRow w.heap.size 41 2 v 0 []/\Below w.heap.size w w':=by
 rcases Nat.eq_zero_or_pos n with rfl | h0
 ·go_enter func145,ntmps145
  go_wp2
  go_ret
  exact⟨_,rfl,World.ownsRow_nil _ _ _ _,Below.refl _ _⟩
 ·obtain⟨i0,hi,hz0,hz1,hz2⟩:=info_parts Zdm
  have hneg:¬((n:Int) < 0):=by omega
  have hpos:(0:Int) < (n:Int):=by omega
  have hG:=grownCap_ge w n 0 41
  have hG63:=grownCap_le_maxLen w n 0 41 (by unfold maxLen;omega)
  have hrun:=fun ty=>Lib.run_append_nil_zeros (P:=prog) w 22 3 ty 41 i0 (.agg #[.string ⟨#[]⟩,.string ⟨#[]⟩]:Value) .i64 .i64 underlying22 underlying3 hi hz0 n h0 (by omega) (by omega) (by rw[hz2];omega)
  obtain⟨G,hGe⟩:=exl (grownCap w n 0 41)
  rw[hGe]at hG hG63 hrun
  obtain⟨CS,hCS⟩:=exl (Builtin.zeroCells (.agg #[.string ⟨#[]⟩,.string ⟨#[]⟩]:Value).cells n++Builtin.zeroCells (.agg #[.string ⟨#[]⟩,.string ⟨#[]⟩]:Value).cells (G-n))
  have hsz:CS.size=G*2:=by
   rw[<-hCS,Array.size_append,Zce,Zce]
   have:(.agg #[.string ⟨#[]⟩,.string ⟨#[]⟩]:Value).cells.size=2:=by rfl
   rw[this,<-Nat.add_mul]
   congr 1
   omega
  rw[hCS]at hrun
  have HSZ:=Hd hsz
  have hGI:(0:Int)<=(G:Int):=by omega
  unfold maxLen at hG63
  clear hi hz0 hz1 hz2 hGe hCS hsz
  go_enter func145,ntmps145
  go_wp2_with (at_builtin;refine Lib.wpList_append_run _ rfl _ _ _ _ rfl _ _ rfl rfl _ _ (hrun _) ?_)
  go_ret
  refine⟨_,rfl,⟨rfl,.inr ⟨w.heap.size,G,CS,rfl,Nat.le_refl _,heap_alloc_new _ _,by omega,by unfold maxLen;omega,HSZ.out,by simp⟩⟩,((Below.refl _ _).drew).alloc (Nat.le_refl _) _⟩
theorem Zs6 (ps:List Zrh)(pb:Nat)(w:World)(hps:Ze1 w 2 pb ps)(hm:Zcm ps*32<=140737488355328)(hl:ps.length<=1000000):
  CA 88 #[.slice (some ⟨pb,0,none⟩) ps.length ps.length] w fun e w'=>∃v,e=.returned v/\w'.ownsRow w.heap.size 41 2 v (Zcm ps) (Zql ps)/\Below w.heap.size w w':=by
 obtain⟨i0,hi,hz0,hz1,hz2⟩:=info_parts Zdm
 have HI:=Hd hi
 have HZ0:=Hd hz0
 have HZ1:=Hd hz1
 have HZ2:=Hd hz2
 have HP:=Hd hps
 clear hi hz0 hz1 hz2 hps
 go_enter func88,ntmps88
 go_wp2
 go_loop [3,11] (fun t i=>∃k:Nat,k<=ps.length/\i=.int .i64 (k:Int)/\t=.int .i64 ((Zcm (ps.take k):Nat):Int)) (fun _ i=>ps.length-(intOf i).toNat)
 case atStart=>exact⟨0,Nat.zero_le _,rfl,rfl⟩
 case round=>
  obtain⟨k,hk,rfl,rfl⟩:=hrel
  have hle:=Zcp ps k
  have hb:Zcm (ps.take k)<=140737488355328:=by omega
  by_cases hlt:k < ps.length
  ·have hsn:=Zc1 ps k hlt
   have hle2:=Zcp ps (k+1)
   obtain⟨c0,_⟩:=HP.out k hlt
   have HS:=Hd hsn
   have hn:ps[k].n<=140737488355328:=by omega
   clear hsn
   generalize ps[k].n=n at*
   generalize ps[k].A=A at*
   generalize ps[k].c=c at*
   go_wp2
   go_round
   case rel=>exact⟨k+1,by omega,by go_num,by rw[HS.out];go_num⟩
   case measure=>simp[intOf];omega
  ·have hke:ps.take k=ps:=List.take_of_length_le (by omega)
   rw[hke]
   clear hke
   go_wp2_with (go_at_call 145;refine(Zz6 _ (by omega) _).mono ?_;rintro e w1 ⟨v,rfl,hown,hb1⟩)
   go_loopw [6,27] (fun v i wr=>∃k:Nat,k<=ps.length/\i=.int .i64 (k:Int)/\Hid (wr.ownsRow w.heap.size 41 2 v (Zcm (ps.take k)) (Zql (ps.take k))/\Below w.heap.size w wr)) (fun _ i _=>ps.length-(intOf i).toNat)
   case atStart=>exact⟨0,Nat.zero_le _,rfl,hown,hb1⟩
   case round=>
    obtain⟨k,hk,rfl,HR⟩:=hrel
    clear hown hb1
    by_cases hlt:k < ps.length
    ·obtain⟨c0,hr⟩:=HP.out k hlt
     have hsn:=Zc1 ps k hlt
     have hfl:=Zhm ps k hlt
     have hle2:=Zcp ps (k+1)
     have hone:=(HP.out k hlt).2.2
     obtain⟨ho,hbw⟩:=HR.out
     have c1:=Zlp hbw c0
     have hr2:=hr.1.below hbw
     have HS:=Hd hsn
     have HF:=Hd hfl
     have HO:=Hd ho
     have hsum:Zcm (ps.take k)+ps[k].n<=Zcm ps:=by omega
     have hbs:=hbw.size
     have hby:(Zcm (ps.take k)+ps[k].n)*32<=Zcm ps*32:=Nat.mul_le_mul_right _ hsum
     clear hsn hfl ho hr
     generalize ps[k].n=n at*
     generalize ps[k].A=A at*
     generalize ps[k].c=c at*
     generalize ps[k].xs=xs at*
     clear c0
     go_wp2_with (at_builtin;refine Zah _ rfl _ _ 22 rfl w.heap.size 41 i0 (.agg #[.string ⟨#[]⟩,.string ⟨#[]⟩]:Value) 2 32 underlying22 HI.out HZ0.out HZ1.out HZ2.out rfl (by decide) _ _ _ rfl HO.out w.heap.size A n c xs rfl hr2 hone (by unfold maxLen;omega) (by omega) hbs ?_;intro v2 w2 hown2 hg2 _)
     go_roundw
     case rel=>exact⟨k+1,by omega,by go_num,by rw[HS.out,HF.out];exact hown2,Zbl hbw HO.out hg2 hbs⟩
     case measure=>simp[intOf];omega
    ·have hke:ps.take k=ps:=List.take_of_length_le (by omega)
     rw[hke]at HR
     clear hke
     go_wp2
     go_ret
     exact⟨_,rfl,HR.out.1,HR.out.2⟩
end
section
open Go.RowKit
attribute [local go_sem ↓] Go.wp_at_zero Go.wp_at_succ
theorem Zv2 {w:World}{size pb:Nat}{p:Zrh}{ps:List Zrh}(h0:w.cell? ⟨pb,0,none⟩=some (.slice p.A p.n p.c))(hr:Zab w w.heap.size size p.A p.n p.xs)(h1:∀u∈p.xs,u.oneCell'=true)
  (h:∀k (hk:k < ps.length),w.cell? ⟨pb,k+1,none⟩=some (.slice ps[k].A ps[k].n ps[k].c)/\Zab w w.heap.size size ps[k].A ps[k].n ps[k].xs/\∀u∈ps[k].xs,u.oneCell'=true):Ze1 w size pb (p::ps):=by
 intro k hk
 cases k with
 | zero=>exact⟨h0,hr,h1⟩
 | succ k=>exact h k (by simpa using hk)
def Zc6 (b:Nat)(A:Option Addr)(c:Nat)(xs:List Fld):List Zrh:=[⟨some ⟨b,0,none⟩,12,12,fvs alw⟩,⟨A,xs.length,c,fvs xs⟩]
theorem Zld (b:Nat)(A:Option Addr)(c:Nat)(xs:List Fld):Zcm (Zc6 b A c xs)=(Zb9 xs).length:=by
 rw[Zcx]
 simp[Zcm,Zc6]
theorem Zme (b:Nat)(A:Option Addr)(c:Nat)(xs:List Fld):Zql (Zc6 b A c xs)=fvs (Zb9 xs):=by
 simp[Zql,Zc6,Zb9,Zg4]
theorem Zwx {w:World}{A:Option Addr}{c:Nat}{xs:List Fld}(h:Zab w w.heap.size 2 A xs.length (fvs xs))(W:World)
  (hW:W=(w.alloc (.cells (fvs alw).toArray 41)).alloc (.cells #[.slice (some ⟨w.heap.size,0,none⟩) 12 12,.slice A xs.length c] 22)):Ze1 W 2 (w.heap.size+1) (Zc6 w.heap.size A c xs):=by
 subst hW
 have hB:Blk ((w.alloc (.cells (fvs alw).toArray 41)).alloc (.cells #[.slice (some ⟨w.heap.size,0,none⟩) 12 12,.slice A xs.length c] 22)) (w.heap.size+1) 22 #[.slice (some ⟨w.heap.size,0,none⟩) 12 12,.slice A xs.length c]:=by
  have:=Blk.new (w.alloc (.cells (fvs alw).toArray 41)) 22 #[.slice (some ⟨w.heap.size,0,none⟩) 12 12,.slice A xs.length c]
  simpa using this
 refine Zv2 (hB.cell 0) ?_ (Zog _) fun k hk=> ?_
 ·exact((Zra w).alloc (by simp) _).more (by simp)
 ·have:k=0:=by simpa using hk
  subst this
  exact⟨hB.cell 1,((h.alloc (Nat.le_refl _) _).alloc (by simp) _).more (by simp;omega),Zog _⟩
theorem Zuz {p:Fld->Bool}{l:List Fld}{k N:Nat}{x:Fld}(h:N=if fnd p l≠0 then fnd p l else if p x then k+1 else 0):
  (fnd p l=0->p x=true->N=k+1)/\(¬fnd p l=0->N=fnd p l)/\(fnd p l=0->¬p x=true->N=0):=by
 refine⟨fun h1 h2=>by rw[h,if_neg (by omega),if_pos h2],fun h1=>by rw[h,if_pos h1],fun h1 h2=>by rw[h,if_neg (by omega),if_neg h2]⟩
theorem Zmz {a:Int}{N:Nat}(h:a=(N:Int)):Value.int .i64 a=.int .i64 (N:Int):=by rw[h]
theorem isF_iff (f x:Fld):isF f x=true↔x.1=f.1/\x.2=f.2:=by simp[isF,Prod.ext_iff]
theorem isN_iff (f x:Fld):isN f x=true↔x.1=f.1:=by simp[isN]
theorem Zs5 (A:Option Addr)(c:Nat)(xs:List Fld)(hl:xs.length<=128)(b pb:Nat)(w:World)(hP:Ze1 w 2 pb (Zc6 b A c xs)):
  CA 88 #[.slice (some ⟨pb,0,none⟩) 2 2] w fun e w'=>∃B d,e=.returned (.slice B (Zb9 xs).length d)/\(Zb9 xs).length<=d/\Zab w' w'.heap.size 2 B (Zb9 xs).length (fvs (Zb9 xs))/\Below w.heap.size w w':=by
 have ht:=Zld b A c xs
 have hx:=Zcx xs
 refine(Zs6 (Zc6 b A c xs) pb w hP (by rw[ht,hx];omega) (by simp[Zc6])).mono ?_
 rintro e w' ⟨v,he,hown,hb⟩
 rw[ht,Zme]at hown
 rcases hown.2 with⟨_,h0⟩ | ⟨g,cap,cur,hv,_,_,hc,_⟩
 ·omega
 ·subst hv
  exact⟨_,_,he,hc,Zei hown,hb⟩
theorem find_any {w:World}{g:Nat}{A:Option Addr}{c:Nat}{xs:List Fld}{mx:Nat}(h:Tab w g A c xs mx)(f:Fld)(hf:fOk f):
  CA 42 #[.pointer (some ⟨g,0,none⟩),.agg #[.string ⟨f.1.toArray⟩,.string ⟨f.2.toArray⟩]] w fun e w'=>
   e=.returned (.tuple #[.int .i64 ((fnd (isF f) (Zb9 xs):Nat):Int),.int .i64 ((fnd (isN f) (Zb9 xs):Nat):Int)])/\Below w.heap.size w w':=by
 obtain⟨_,_,hl⟩:=h.cap
 obtain⟨T,hTe⟩:=exl (Zb9 xs)
 have hTl2:T.length<=140:=by rw[<-hTe,Zcx];omega
 have hTp:0 < T.length:=by rw[<-hTe,Zcx];omega
 rw[hTe]
 have HTe:=Hd hTe
 clear hTe
 have hbx:=(Below.refl w.heap.size w).alloc (Nat.le_refl _) (.cells #[.string ⟨f.1.toArray⟩,.string ⟨f.2.toArray⟩] 41)
 have hT:=h.below hbx
 obtain⟨c0,_,_⟩:=hT.cells
 have hP:=Zwx (Zei hT.own) (c:=c) _ rfl
 simp only[World.size_alloc]at hP
 have HP:Hid (Ze1 ((((w.alloc (.cells #[.string ⟨f.1.toArray⟩,.string ⟨f.2.toArray⟩] 41)).alloc (.cells (fvs alw).toArray 41)).alloc (.cells #[.slice (some ⟨w.heap.size+1,0,none⟩) 12 12,.slice A xs.length c] 22)).drew) 2 (w.heap.size+1+1) (Zc6 (w.heap.size+1) A c xs)):=hP
 have hg:=hT.blk.lt
 clear h hT hP hbx
 go_enter func42,ntmps42
 go_wp2
 go_region_held3 (fun w'=>w'.cell? ⟨g,0,none⟩=some (.slice A xs.length c)) (first | go_keep | (exact Zaj hb3 ‹_›)) (first | (go_at_call 89;refine(Zhc _).mono ?_;rintro e w' ⟨rfl,rfl⟩) | (go_at_call 88;((with_reducible refine(Zs5 A c xs hl (w.heap.size+1) _ _ ?hP).mono ?_);(case hP=>exact HP.out));rintro e w3 ⟨B,d,rfl,hd,hr,hb3⟩))
 all_goals
  have hBx:Blk w3 w.heap.size 41 #[.string ⟨f.1.toArray⟩,.string ⟨f.2.toArray⟩]:=((((Blk.new w _ _).alloc _).alloc _).drew).below hb3 (by simp;omega)
  have q0:=hBx.cell 0
  have q1:=hBx.cell 1
  simp only[List.getElem?_toArray,List.getElem?_cons_zero,List.getElem?_cons_succ]at q0 q1
  clear hBx
  have hsz:=hb3.size
  simp only[World.size_drew,World.size_alloc]at hsz
  rw[HTe.out]at hr hd
  rw[HTe.out]
  obtain⟨b,off,rfl,hbB,hcl⟩:=Zb4 hr hTp
  have HCL:=Hd hcl
  have hbx:Below w.heap.size w ((((w.alloc (.cells #[.string ⟨f.1.toArray⟩,.string ⟨f.2.toArray⟩] 41)).alloc (.cells (fvs alw).toArray 41)).alloc (.cells #[.slice (some ⟨w.heap.size+1,0,none⟩) 12 12,.slice A xs.length c] 22)).drew):=
   ((((Below.refl w.heap.size w).alloc (Nat.le_refl _) _).alloc (by simp) _).alloc (by simp;omega) _).drew
  have HB:=Hd (hbx.trans (hb3.mono (by simp;omega)))
  clear hcl hr hb3 hbx
  go_wp2
  go_loopw [4,5,16] (fun u v i wr=>∃k:Nat,k<=T.length/\i=.int .i64 (k:Int)/\u=.int .i64 ((fnd (isF f) (T.take k):Nat):Int)/\v=.int .i64 ((fnd (isN f) (T.take k):Nat):Int)/\Hid (Below w3.heap.size w3 wr)) (fun _ _ i _=>T.length-(intOf i).toNat)
  case atStart=>exact⟨0,Nat.zero_le _,rfl,rfl,rfl,Below.refl _ _⟩
  case round=>
   obtain⟨k,hk,rfl,rfl,rfl,HW⟩:=hrel
   by_cases hlt:k < T.length
   ·have hFs:=Zik (isF f) T k hlt
    have hNs:=Zik (isN f) T k hlt
    obtain⟨e1,e2⟩:=HCL.out k hlt
    have r1:=Zaj HW.out e1
    have r2:=Zaj HW.out e2
    have p0:=Zaj HW.out q0
    have p1:=Zaj HW.out q1
    have hbw:=HW.out.size
    have hsw:w.heap.size < wr.heap.size:=World.block_lt_of_cell? wr _ p0
    have HFS:=Hd hFs
    have HNS:=Hd hNs
    clear hFs hNs e1 e2
    generalize T[k]=x at*
    obtain⟨F1,F2,F3⟩:=Zuz HFS.out
    obtain⟨N1,N2,N3⟩:=Zuz HNS.out
    rw[isF_iff]at F1 F3
    rw[isN_iff]at N1 N3
    replace F1:=Hd F1
    replace F2:=Hd F2
    replace F3:=Hd F3
    replace N1:=Hd N1
    replace N2:=Hd N2
    replace N3:=Hd N3
    go_wp2
    all_goals
     go_roundw
     case rel=>
      refine⟨k+1,by omega,by go_num,?_,?_,HW.out.alloc hbw _⟩
      ·apply Zmz
       first
        | (rw[F1.out ‹_› ⟨‹_›,‹_›⟩];omega)
        | (rw[F2.out ‹_›])
        | (rw[F3.out ‹_› (fun hh=>absurd hh.1 ‹_›)];omega)
        | (rw[F3.out ‹_› (fun hh=>absurd hh.2 ‹_›)];omega)
      ·apply Zmz
       first
        | (rw[N1.out ‹_› (by first | assumption | exact eq_of_beq ‹_›)];omega)
        | (rw[N2.out ‹_›])
        | (rw[N3.out ‹_› (by first | assumption | exact ne_of_beq_false ‹_›)];omega)
     case measure=>simp[intOf];omega
   ·have hke:T.take k=T:=List.take_of_length_le (by omega)
    rw[hke]
    have HK:=Hd hke
    have hbw:=HW.out
    clear hke
    go_wp2
    go_ret2
    exact⟨rfl,HB.out.trans (hbw.mono (by omega))⟩
end
section
open Go.RowKit
variable {qo:Value×Value×Value}
theorem Zv9 (mx:Nat)(xs l:List Fld)(f:Fld):Zcs mx xs (l++[f])=Zem mx (Zcs mx xs l) f:=by
 induction l generalizing xs with
 | nil=>rfl
 | cons x l ih=>exact ih _
theorem Zvs (mx:Nat)(xs l:List Fld)(f:Fld):Za0 mx xs (l++[f])=Za0 mx xs l++Zdd mx (Zcs mx xs l) f:=by
 induction l generalizing xs with
 | nil=>simp[Za0,Zcs]
 | cons x l ih=>
  show Zdd mx xs x++Za0 mx (Zem mx xs x) (l++[f])=_
  rw[ih]
  simp[Za0,Zcs]
theorem Zv8 (mx:Nat)(xs l:List Fld)(k:Nat)(h:k < l.length):Zcs mx xs (l.take (k+1))=Zem mx (Zcs mx xs (l.take k)) l[k]:=by rw[List.take_succ_eq_append_getElem h,Zv9]
theorem Zvr (mx:Nat)(xs l:List Fld)(k:Nat)(h:k < l.length):Za0 mx xs (l.take (k+1))=Za0 mx xs (l.take k)++Zdd mx (Zcs mx xs (l.take k)) l[k]:=by rw[List.take_succ_eq_append_getElem h,Zvs]
theorem Zc2 (n:Nat)(t f:Int)(h:n<=2147483647):(Zd4 (n:Nat) t f).length<=1000:=by
 unfold Zd4
 split
 ·have:=Zky (n:Int).toNat t.toNat (by omega) f.toNat
  omega
 ·simp
theorem Zh7 (s:List UInt8):(Zco s).length<=1500:=by
 unfold Zco
 split
 ·simp
 ·have h1:=Znj s
  have h2:=Zc2 (Zhf s).length 7 (Zju s) (by omega)
  rw[List.length_append]
  omega
theorem Zpl (mx:Nat)(xs:List Fld)(f:Fld)(h:xs.length<=4096):(Zdd mx xs f).length<=5000:=by
 have h1:=Zhl (isF f) (Zb9 xs)
 have h2:=Zhl (isN f) (Zb9 xs)
 rw[Zcx]at h1 h2
 have h3:=Zc2 (fnd (isF f) (Zb9 xs)) 7 128 (by omega)
 have h4:=Zc2 (fnd (isN f) (Zb9 xs)) 6 64 (by omega)
 have h5:=Zh7 f.1
 have h6:=Zh7 f.2
 unfold Zdd
 split
 ·omega
 ·split
  ·simp only[List.length_append]
   omega
  ·simp only[List.length_append,List.length_nil]
   omega
def Zep (w wr:World)(C g:Nat)(A:Option Addr)(Sv:Value)(G:Nat)(xs:List Fld)(mx:Nat)(b:List UInt8)(qo:Value×Value×Value):Prop:=
 ∃A' c' v,Znd wr C g A' c' (.slice none 0 0) xs mx [] qo/\Wr wr G v b/\Zax (Zl1 C g A Sv) w wr/\(∀k,Zl1 C g A' (.slice none 0 0) k->Zl1 C g A Sv k∨w.heap.size<=k)/\(∀k,Ztu G v k->w.heap.size<=k)/\∀k,Ztu G v k->¬Zl1 C g A' (.slice none 0 0) k
section
variable {w wr w1:World} {C g G mx:Nat} {A:Option Addr} {Sv:Value} {xs:List Fld} {b:List UInt8}
theorem Zep.next (h:Zep w wr C g A Sv G xs mx b qo)(hb:Below wr.heap.size wr w1):Zep w w1 C g A Sv G xs mx b qo:=by
 obtain⟨A',c',v,h1,h2,h3,h4,h5,h6⟩:=h
 exact⟨A',c',v,h1.below hb,h2.keep (S:=fun _=>False) (Zax.of_below hb) (fun _ _ h=>h),h3.trans (Zax.of_below (S:=fun _=>False) hb) (fun i hi=>hi.elim),h4,h5,h6⟩
theorem Zep.cells (h:Zep w wr C g A Sv G xs mx b qo):wr.cell? ⟨C,0,none⟩=some (.pointer (some ⟨g,0,none⟩))/\xs.length<=128/\C < wr.heap.size/\w.heap.size<=wr.heap.size:=by
 obtain⟨A',c',v,⟨hb,ht,_⟩,h2,h3,h4,h5,h6⟩:=h
 exact⟨hb.cell 0,ht.cap.2.2,hb.lt,h3.size⟩
theorem Zqn {A':Option Addr}{c':Nat}{v:Value}(h1:Znd wr C g A' c' (.slice none 0 0) xs mx [] qo)(h3:Zax (Zl1 C g A Sv) w wr)(h4:∀k,Zl1 C g A' (.slice none 0 0) k->Zl1 C g A Sv k∨w.heap.size<=k)(h5:∀k,Ztu G v k->w.heap.size<=k)(h6:∀k,Ztu G v k->¬Zl1 C g A' (.slice none 0 0) k){w':World}{b':List UInt8}(hw:Wrote wr w' G v b'):Zep w w' C g A Sv G xs mx b' qo/\wr.heap.size<=w'.heap.size:=by
 obtain⟨v',h7,h8,h9⟩:=hw
 refine⟨⟨A',c',v',h1.keep h8 fun k hk hs=>h6 k hs hk,h7,h3.trans h8 fun i hi=> .inr (h5 i hi),h4,fun k hk=> ?_,fun k hk=> ?_⟩,h8.size⟩
 ·rcases h9 k hk with h | h
  ·exact h5 k h
  ·exact Nat.le_trans h3.size h
 ·rcases h9 k hk with h | h
  ·exact h6 k h
  ·intro ho
   have:=h1.lt k ho
   omega
theorem enc_find (h:Zep w wr C g A Sv G xs mx b qo)(f:Fld)(hf:fOk f):
  CA 42 #[.pointer (some ⟨g,0,none⟩),.agg #[.string ⟨f.1.toArray⟩,.string ⟨f.2.toArray⟩]] wr fun e w'=>
   e=.returned (.tuple #[.int .i64 ((fnd (isF f) (Zb9 xs):Nat):Int),.int .i64 ((fnd (isN f) (Zb9 xs):Nat):Int)])/\Below wr.heap.size wr w':=by
 obtain⟨A',c',v,h1,h2,h3,h4,h5,h6⟩:=h
 exact find_any h1.tab f hf
theorem Z0p (h:Zep w wr C g A Sv G xs mx b qo)(f:Fld)(hf:fOk f):
  CA 44 #[.pointer (some ⟨g,0,none⟩),.agg #[.string ⟨f.1.toArray⟩,.string ⟨f.2.toArray⟩]] wr fun e w'=>(∃v,e=.returned v)/\Zep w w' C g A Sv G (Zrs mx xs f) mx b qo/\wr.heap.size<=w'.heap.size:=by
 obtain⟨A',c',v,h1,h2,h3,h4,h5,h6⟩:=h
 have hne:=h1.ne
 obtain⟨hb,ht,hr⟩:=h1
 refine(Z1x ht f hf).mono ?_
 rintro e w' ⟨he,A2,c2,h7,h8,h9⟩
 have hgo:∀k,Ztu G v k->k < wr.heap.size:=fun k hk=>h2.lt k hk
 refine⟨⟨_,he⟩,⟨A2,c2,v,⟨hb.keep h8 hne.1,h7,World.ownsRow_nil _ _ _ _⟩,h2.keep h8 (fun k hk hs=>h6 k hk (.inr (.inl hs))),h3.trans h8 fun i hi=>h4 i (.inr (.inl hi)),?_,h5,?_⟩,h8.size⟩
 ·rintro k (rfl | hk | hk)
  ·exact h4 k (.inl rfl)
  ·rcases h9 k hk with h | h
   ·exact h4 k (.inr (.inl h))
   ·exact .inr (Nat.le_trans h3.size h)
  ·simp[Value.ownBlock]at hk
 ·intro k hk
  rintro(rfl | ho | ho)
  ·exact h6 _ hk (.inl rfl)
  ·rcases h9 k ho with h | h
   ·exact h6 k hk (.inr (.inl h))
   ·have:=hgo k hk
    omega
  ·simp[Value.ownBlock]at ho
end
end
section
open Go.RowKit
attribute [local go_sem ↓] Go.wp_at_zero Go.wp_at_succ
theorem Zkg (mx:Nat)(xs:List Fld)(f:Fld)(hm:mx<=4096)(h:wt xs<=4096):wt (Zem mx xs f)<=4096:=by
 unfold Zem
 split
 ·exact h
 ·exact Nat.le_trans (Zrj mx xs f) hm
theorem Zpk (mx:Nat)(hm:mx<=4096):∀(l xs:List Fld),wt xs<=4096->(Za0 mx xs l).length<=5000*l.length
 | [],xs,h=>by simp[Za0]
 | f::l,xs,h=>by
  have h1:=Zpk mx hm l (Zem mx xs f) (Zkg mx xs f hm h)
  have h2:=Zpl mx xs f (by have:=Zmj xs;omega)
  simp only[Za0,List.length_append,List.length_cons]
  omega
theorem Zym (ps:List Nat)(h:∀p∈ps,p<=4096):(Zdq ps).length<=2000:=by
 cases ps with
 | nil=>simp[Zdq]
 | cons p r=>
  have h0:=h p (by simp)
  have h1:=(Zp7 r p).1
  have h2:=h _ (List.getLast_mem (l:=p::r) (by simp))
  have h3:=Zc2 (Zf4 p r) 5 32 (by omega)
  have h4:=Zc2 ((p::r).getLast (by simp)) 5 32 (by omega)
  simp only[Zdq,List.length_append]
  split
  ·omega
  ·simp only[List.length_nil]
   omega
theorem Zpe (l:List Fld)(f:Fld):Zci (l++[f])=(Zci l || (decide (400 < f.1.length) || decide (400 < f.2.length))):=by simp[Zci]
theorem Zpd (l:List Fld)(k:Nat)(h:k < l.length):Zci (l.take (k+1))=(Zci (l.take k) || (decide (400 < l[k].1.length) || decide (400 < l[k].2.length))):=by rw[List.take_succ_eq_append_getElem h,Zpe]
theorem Zpf {l:List Fld}(h:Zci l=false):∀f∈l,f.1.length<=400/\f.2.length<=400:=by
 intro f hf
 have:=List.any_eq_false.1 h f hf
 simp at this
 omega
theorem len_gt {n:Nat}(h:400 < n):(400:Int) < ((n:Nat):Int)/\decide ((400:Int) < ((n:Nat):Int))=true:=by
 have:(400:Int) < ((n:Nat):Int):=by omega
 exact⟨this,decide_eq_true this⟩
theorem Zuu {n:Nat}(h:n<=400):¬(400:Int) < ((n:Nat):Int)/\decide ((400:Int) < ((n:Nat):Int))=false:=by
 have:¬(400:Int) < ((n:Nat):Int):=by omega
 exact⟨this,decide_eq_false this⟩
theorem Z1f (C:Nat)(l:List Fld)(hf:∀f∈l,fOk f)(hm:l.length<=140737488355328)(hE:Za2 l=true)(LA:Option Addr)(n lc:Nat)(hn:n=l.length)(w:World)(hr:Zab w w.heap.size 2 LA l.length (fvs l)):
  CA 10 #[.pointer (some ⟨C,0,none⟩),.slice LA n lc] w fun e w'=>e=.returned (.tuple #[.slice none 0 0,.iface 95 (.int .i64 4)])/\Below w.heap.size w w':=by
 subst hn
 have HE:=Hd hE
 clear hE
 go_enter func10,ntmps10
 go_wp2_with fail
 refine(Zg5 l hf hm LA _ lc rfl w hr).mono ?_
 rintro e w1 ⟨rfl,hb1⟩
 rw[HE.out]
 go_wp2
 go_ret2
 exact⟨rfl,hb1⟩
theorem Z1g (C:Nat)(l:List Fld)(hf:∀f∈l,fOk f)(hm:l.length<=140737488355328)(hE0:Za2 l=false)(hE:Zci l=true)(LA:Option Addr)(n lc:Nat)(hn:n=l.length)(w:World)(hr:Zab w w.heap.size 2 LA l.length (fvs l)):
  CA 10 #[.pointer (some ⟨C,0,none⟩),.slice LA n lc] w fun e w'=>e=.returned (.tuple #[.slice none 0 0,.iface 95 (.int .i64 4)])/\Below w.heap.size w w':=by
 subst hn
 have HE:=Hd hE
 have HE0:=Hd hE0
 have HR:=Hd hr
 clear hE hE0
 go_enter func10,ntmps10
 go_wp2_with fail
 refine(Zg5 l hf hm LA _ lc rfl w hr).mono ?_
 rintro e w1 ⟨rfl,hb1⟩
 rw[HE0.out]
 have HB1:=Hd hb1
 clear hb1 hr
 go_wp2
 go_loopw [23] (fun i wr=>∃k:Nat,k<=l.length/\i=.int .i64 (k:Int)/\Hid (Zci (l.take k)=false)/\Hid (Below w.heap.size w wr)) (fun i _=>l.length-(intOf i).toNat)
 case atStart=>exact⟨0,Nat.zero_le _,rfl,by simp[Zci,Hid],HB1.out⟩
 case round=>
  obtain⟨k,hk,rfl,HT,HBr⟩:=hrel
  by_cases hlt:k < l.length
  ·obtain⟨b,off,rfl,hbB,hcl⟩:=Zb4 (HR.out.below HBr.out) (by omega)
   obtain⟨e0,e1⟩:=hcl k hlt
   have hbr:=Nat.lt_of_lt_of_le hbB HBr.out.size
   have hts:=Zpd l k hlt
   rw[HT.out,Bool.false_or]at hts
   have HTS:=Hd hts
   have HB2:=Hd (HBr.out.alloc HBr.out.size (.cells #[.string ⟨l[k].1.toArray⟩,.string ⟨l[k].2.toArray⟩] 41))
   clear hcl hts
   generalize l[k]=f at*
   by_cases h1:400 < f.1.length
   ·obtain⟨i1,i2⟩:=len_gt h1
    go_wp2
    go_ret2
    exact⟨rfl,HB2.out⟩
   ·obtain⟨i1,i2⟩:=Zuu (Nat.le_of_not_lt h1)
    by_cases h2:400 < f.2.length
    ·obtain⟨i3,i4⟩:=len_gt h2
     go_wp2
     go_ret2
     exact⟨rfl,HB2.out⟩
    ·obtain⟨i3,i4⟩:=Zuu (Nat.le_of_not_lt h2)
     have hnx:Zci (l.take (k+1))=false:=by rw[HTS.out];simp[h1,h2]
     have HNX:=Hd hnx
     clear hnx h1 h2
     go_wp2
     go_roundw
     case rel=>exact⟨k+1,by omega,by go_num,HNX.out,HB2.out⟩
     case measure=>simp[intOf];omega
  ·have hke:l.take k=l:=List.take_of_length_le (by omega)
   have:=HT.out
   rw[hke,HE.out]at this
   cases this
theorem Zw8 (C:Nat)(l:List Fld)(hf:∀f∈l,fOk f)(hm:l.length<=140737488355328)(hE:Ze7 l≠0)(LA:Option Addr)(n lc:Nat)(hn:n=l.length)(w:World)(hr:Zab w w.heap.size 2 LA l.length (fvs l)):
  CA 10 #[.pointer (some ⟨C,0,none⟩),.slice LA n lc] w fun e w'=>e=.returned (.tuple #[.slice none 0 0,.iface 95 (.int .i64 4)])/\Below w.heap.size w w':=by
 cases h1:Za2 l with
 | true=>exact Z1f C l hf hm h1 LA n lc hn w hr
 | false=>
  cases h2:Zci l with
  | true=>exact Z1g C l hf hm h1 h2 LA n lc hn w hr
  | false=>simp[Ze7,h1,h2]at hE
end
end Go.Proofs.YtbgnggkgmeagkaaGreatDoor
