/-
  A part of the proof of TopAlike: each theorem states its own conditions.
-/
import Derived.Test.YtbgnggkgmeagkaaGreatDoorMTopAlike35
import Derived.Test.YtbgnggkgmeagkaaGreatDoorRows
import Derived.Lib.LaidU8
import Derived.Shelf.Vars
import Derived.Lay
import Derived.LaidHandle
import Derived.MakeChecks
import Derived.Test.YtbgnggkgmeagkaaGreatDoorMTopAlike13
set_option linter.unusedSimpArgs false
set_option linter.unusedVariables false
set_option maxRecDepth 100000
set_option maxHeartbeats 16000000
namespace Go.Proofs.YtbgnggkgmeagkaaGreatDoor
open Go.Proofs.Tryz
section
open Go.RowKit Go.Shelf
theorem fr_ok {w w0:World}{F:List Zae}{io id ib c db:Nat}{D DB:Option Addr}(hP:Pow w0)(hio:F[io]? =some (Zel w0))(hid:F[id]? =some (Zad 41 2 (.slice D 2 c) 2 (fvs Zn2)))(hib:F[ib]? =some (Zad 5 1 (.slice DB 4 db) 4 (bs Zb6)))(h:Sep w F):
  CA 69 #[.slice D 2 c,.slice DB 4 db] w fun e w'=>∃A fl BA ba,e=.returned (.tuple #[.agg #[.int .i64 200,.slice A 0 fl,.slice BA 4 ba],.nilIface])/\Sep w' (Zad 5 1 (.slice BA 4 ba) 4 (bs Zb6)::F):=by
 have h1:=h.newBlk 69 #[.int .i64 0,.slice none 0 0,.slice none 0 0]
 obtain⟨W,hW⟩:=exl (w.alloc (.cells #[.int .i64 0,.slice none 0 0,.slice none 0 0] 69))
 rw[hW]at h1
 obtain⟨g,rfl,hg,hc,k0,k1,k2,k3⟩:=Zib h1 (i:=id+1) hid
 obtain⟨gb,rfl,-⟩:=h1.rowAt (i:=ib+1) hib (by decide)
 have HH:=Hd (rp_has g 2 (c-1) (by omega) W k2 k3)
 have H1:=Hd h1
 clear h h1
 go_enter func69,ntmps69
 go_wp2_with fail
 refine Mo HH ?_
 rintro e w1 ⟨rfl,hb⟩
 have h2:=H1.out.below hb
 obtain⟨g',e',hg,hc,k0,k1,k2,k3⟩:=Zib h2 (i:=id+1) hid
 cases e'
 have H2:=Hd h2
 clear hb h2 H1 HH hW
 go_wp2_with fail
 refine(atoi_200 _).mono ?_
 rintro e w2 ⟨rfl,hb⟩
 have h3:=H2.out.below hb
 have H3:=Hd h3
 clear hb h3 H2 k0 k1 k2 k3 hg
 have HZ:=Hd (show∀w',Below w2.heap.size w2 w'->w'.cell? ⟨g,1,none⟩=some (.string ⟨#[50,48,48]⟩)/\Pow w'/\g < w'.heap.size from fun w' hb=>by
  have h2:=H3.out.below hb
  obtain⟨g',e',hg,hc,k0,k1,k2,k3⟩:=Zib h2 (i:=id+1) hid
  cases e'
  exact⟨k1,hP.next (h2.old (i:=io+1) hio),hg⟩)
 go_wp2_with fail
 refine Zd3 (fun w'=>Below w2.heap.size w2 w') (by kernel_rfl) (by kernel_rfl) ?_ fun hne=> ?_
 ·exact(Below.refl _ _).drew
 have z1:∀x:WIn (fun w'=>Below w2.heap.size w2 w'),x.w.cell? ⟨g,1,none⟩=some (.string ⟨#[50,48,48]⟩):=fun x=>(HZ.out _ x.h).1
 repeat (first | go_big_quiet_skip | (go_big_quiet_want;go_big_quiet_op;go_big_quiet_on))
 go_big_quiet_want
 go_big_quiet_op
 refine⟨_,fun x=>Zcg (Zod _ (HZ.out _ x.h).2.1) (fun e w9 h9=>⟨h9.1,x.h.trans (h9.2.mono x.h.size)⟩),?_⟩
 go_big_quiet_on
 repeat (first | go_big_quiet_skip | (go_big_quiet_want;go_big_quiet_op;go_big_quiet_on))
 refine wpQuiet_nil ?_
 intro w9 hw9
 obtain⟨x,rfl⟩:=hw9
 obtain⟨w3,hb3⟩:=x
 simp only
 clear z1 hne HZ
 have h4:=H3.out.below hb3
 have HR:=Hd (Zag h4 (i:=ib+1) hib)
 have H4:=Hd h4
 clear hb3 H3 h4
 go_wp2_with fail
 refine(Zcd (some ⟨gb,0,none⟩) Zb6 4 db rfl (fun e=>by cases e) (by decide) _ HR.out).mono ?_
 rintro e w4 ⟨BA,ba,rfl,hown,hb4⟩
 have hown:w4.ownsRow w3.heap.size 5 1 (.slice BA 4 ba) 4 (bs Zb6):=hown
 have h5:=(H4.out.newRow hb4 hown).newBlk 69 #[.int .i64 200,.slice none 0 0,.slice BA 4 ba]
 have hl5:Zb6.length=4:=rfl
 rw[hl5]
 obtain⟨W5,hW5⟩:=exl (w4.alloc (.cells #[.int .i64 200,.slice none 0 0,.slice BA 4 ba] 69))
 rw[hW5]at h5
 obtain⟨g',e',hg,hc,k0,k1,k2,k3⟩:=Zib h5 (i:=id+3) hid
 cases e'
 have kR:=h5.at_ (i:=0) rfl
 have H5:=Hd h5
 clear hown hb4 h5 H4 HR hl5
 go_wp2_with fail
 refine(rp_clone H5.out g (c-1) hg k2 k3).mono ?_
 rintro e w5 ⟨CQ,cc,rfl,h6⟩
 have H6:=Hd h6
 clear h6 H5 k0 k1 k2 k3 kR hW5 hg
 go_wp2_with fail
 refine(rp_del H6.out).mono ?_
 rintro e w6 ⟨FA,fl,rfl,h7⟩
 have kR:=h7.at_ (i:=0) rfl
 have h8:=h7.set_ (i:=0) rfl 1 (.slice FA 0 fl)
 change Sep _ (Zaa _ _ #[.int .i64 200,.slice FA 0 fl,.slice BA 4 ba]::_)at h8
 have kS:=h8.at_ (i:=0) rfl
 have kT:=h8.at_ (i:=2) rfl
 have HC:=Hd (show CA 117 #[.agg #[.int .i64 200,.slice FA 0 fl,.slice BA 4 ba],.int .i64 0] _ fun e w'=>e=.returned .nilIface/\Below _ _ w' from ct_ok 0 FA fl BA ba (w6.setCell ⟨w4.heap.size,1,none⟩ (.slice FA 0 fl)))
 have H8:=Hd h8
 clear h7 h8 H6
 go_wp2_with fail
 refine Mo HC ?_
 rintro e w7 ⟨rfl,hb7⟩
 have h9:=H8.out.below hb7
 have kR:=h9.at_ (i:=0) rfl
 have kT:=h9.at_ (i:=2) rfl
 have n1:=h9.ne_ (i:=0) (i':=2) rfl rfl (by decide)
 have h10:=((h9.set_ (i:=2) rfl 0 (.int .i64 200)).set_ (i:=2) rfl 1 (.slice FA 0 fl)).set_ (i:=2) rfl 2 (.slice BA 4 ba)
 change Sep _ (_::_::Zaa _ _ #[.int .i64 200,.slice FA 0 fl,.slice BA 4 ba]::_)at h10
 have H10:=Hd h10
 clear hb7 h9 h10 H8 HC
 go_wp2
 refine bodyPost_ret (Zb3 rfl _ _ w.heap.size _ _ _ rfl (H10.out.blk (i:=2) rfl) underlying69 rfl Zia) rfl ?_
 exact⟨FA,fl,BA,ba,rfl,(H10.out.tail).drop_ 1⟩
theorem cl_reply {w w0:World}{F:List Zae}{io kb C M X c db mc:Nat}{D DB:Option Addr}{ord inn out part q:Value}{win last nw:Int}{ends:Bool}(hP:Pow w0)(hio:F[io]? =some (Zel w0))
  (h:Sep w (Zaa kb 126 (Zau C M ord inn out win last part 0 ends)::Zak M (Zaw (.pointer (some ⟨X,0,none⟩))) mc::Zaa X 130 (Zay nw q false (.slice D 2 c) true (.slice DB 4 db) true)::Zad 5 1 (.slice DB 4 db) 4 (bs Zb6)::Zad 41 2 (.slice D 2 c) 2 (fvs Zn2)::F)):
  CA 25 #[.pointer (some ⟨kb,0,none⟩),.int .i64 1] w fun e w'=>∃A fl BA ba,e=.returned (.tuple #[.agg #[.int .i64 200,.slice A 0 fl,.slice BA 4 ba],.nilIface])/\Sep w' (Zad 5 1 (.slice BA 4 ba) 4 (bs Zb6)::F):=by
 have h1:=h.newBlk 69 #[.int .i64 0,.slice none 0 0,.slice none 0 0]
 obtain⟨W,hW⟩:=exl (w.alloc (.cells #[.int .i64 0,.slice none 0 0,.slice none 0 0] 69))
 rw[hW]at h1
 have kK:=h1.at_ (i:=1) rfl
 have kX:=h1.at_ (i:=3) rfl
 have ql:=h1.look_call (i:=2) rfl true
 have n1:=h1.ne_ (i:=0) (i':=3) rfl rfl (by decide)
 have n2:=Ne.symm n1
 have H1:=Hd h1
 have HF:=Hd (fr_ok (io:=io+6) hP hio (id:=5) rfl (ib:=4) rfl h1.drew)
 unfold Zau at kK
 unfold Zay at kX
 clear h h1
 go_enter func25,ntmps25
 go_wp2_with fail
 go_region_held3 (fun w'=>w'.cell? ⟨X,3,none⟩=some (.slice D 2 c)/\w'.cell? ⟨X,5,none⟩=some (.slice DB 4 db))
  (first | exact⟨kX.1 3,kX.1 5⟩ | exact⟨kX2.1 3,kX2.1 5⟩ | go_keep)
  (first
  | (go_at_call 69;refine HF.out.mono ?_;rintro e w2 ⟨FA,fl,BA,ba,rfl,h2⟩;have kR:=h2.at_ (i:=1) rfl;have kX2:=h2.at_ (i:=4) rfl;unfold Zay at kX2;have H2:=Hd h2;clear h2))
 have h3:=((H2.out.set_ (i:=1) rfl 0 (.int .i64 200)).set_ (i:=1) rfl 1 (.slice FA 0 fl)).set_ (i:=1) rfl 2 (.slice BA 4 ba)
 change Sep _ (_::Zaa _ _ #[.int .i64 200,.slice FA 0 fl,.slice BA 4 ba]::_)at h3
 have H3:=Hd h3
 clear h3 H2 kR kX2 kX kK ql
 go_wp2
 refine bodyPost_ret (Zb3 rfl _ _ w.heap.size _ _ _ rfl (H3.out.blk (i:=1) rfl) underlying69 rfl Zia) rfl ?_
 exact⟨FA,fl,BA,ba,rfl,(((((H3.out.drop_ 1).drop_ 1).drop_ 1).drop_ 1).drop_ 1).drop_ 1⟩
theorem clone_39 {W:World}{ad:Addr}{jc:Nat}(h:Zab W W.heap.size 1 (some ad) Zf1.length (bs Zf1)):CA 46 #[.slice (some ad) 39 jc] W fun e w'=>∃A c,e=.returned (.slice A 39 c)/\w'.ownsRow W.heap.size 5 1 (.slice A 39 c) 39 (bs Zf1)/\Below W.heap.size W w':=by
 have h1:=Zcd (some ad) Zf1 39 jc Zdn.2.symm (fun e=>by cases e) (by rw[Zdn.2];decide) W h
 rw[Zdn.2]at h1
 exact h1
theorem ga_job {w:World}{F:List Zae}{ig ij ia g kb Li St CM JM jm jc:Nat}{ad:Addr}{R log:Value}{last:Int}(h:Sep w F)(hg:F[ig]? =some (Zaa g 120 (Za7 kb R Li St CM JM last log)))(hj:F[ij]? =some (Zak JM (Zaw (.agg #[.int .i64 1,.string ⟨#[97,108,108]⟩,.slice (some ad) 39 jc])) jm))(ha:F[ia]? =some (Zir ad Zf1)):
  CA 20 #[.pointer (some ⟨g,0,none⟩),.int .i64 1] w fun e w'=>∃A c,e=.returned (.tuple #[.string ⟨#[97,108,108]⟩,.slice A 39 c,.nilIface])/\Sep w' (Zad 5 1 (.slice A 39 c) 39 (bs Zf1)::F):=by
 have kg:=h.at_ hg
 have ql:=Zur h hj
 have h0:=h.newBlk 141 #[.int .i64 1,.string ⟨#[97,108,108]⟩,.slice (some ad) 39 jc]
 have kD:=h0.at_ (i:=0) rfl
 have H0:=Hd h0.drew
 have HB:=Hd (show Zab _ _ 1 (some ad) Zf1.length (bs Zf1)from h0.drew.byt (i:=ia+1) ha)
 unfold Za7 at kg
 have d1:=kD.1 1
 have d2:=kD.1 2
 clear h h0
 go_enter func20,ntmps20
 go_upto_region 4 with fail
 obtain⟨W,hW⟩:=exl (w.alloc (.cells #[.int .i64 1,.string ⟨#[97,108,108]⟩,.slice (some ad) 39 jc] 141))
 rw[hW]at H0 HB d1 d2 kD⊢
 clear ql kg
 go_region_held3 (fun w'=>w'.cell? ⟨w.heap.size,1,none⟩=some (.string ⟨#[97,108,108]⟩)/\w'.cell? ⟨w.heap.size,2,none⟩=some (.slice (some ad) 39 jc))
  (first | (with_reducible exact⟨d1,d2⟩) | (with_reducible exact⟨e1,e2⟩) | go_keep)
  (first
  | (go_at_call 46;refine(clone_39 HB.out).mono ?_;rintro e w4 ⟨A,c,rfl,hown,hb⟩;have h4:=H0.out.newRow hb hown;have kD4:=h4.at_ (i:=1) rfl;have e1:=kD4.1 1;have e2:=kD4.1 2;have H4:=Hd h4;clear hown hb h4 kD4 d1 d2))
 all_goals
  go_wp2
  go_ret3
  exact⟨A,c,rfl,H4.out.drop_ 1⟩
theorem sep_old (w:World):Sep w [Zel w]:=Sep.nil_.cons_ (a:=Zel w) (Below.refl _ _) (fun _ hk=>hk) (fun _ hb=>by cases hb)
theorem cli_eq :Zf6++[0,0,8,1,4,0,0,0,1,130,67,2,47,112,68,1,104,0,0,1,0,1,0,0,0,1,120]=cliB:=rfl
theorem sep_byte {w:World}{F:List Zae}(h:Sep w F):Sep (Zih (w.alloc (.cells #[.int .u8 120] 5)) w.heap.size) (Zir ⟨w.heap.size,0,none⟩ [120]::F):=
 h.new (Below.mark ((Below.refl _ _).alloc (Nat.le_refl _) _) (Nat.le_refl _)) ⟨((Kc.refl _).mark w.heap.size).reads ((Blk.new w 5 #[.int .u8 120]).reads_ rfl),by rw[Zgw];simp⟩ (by rintro k rfl;rw[Zgw];simp)
theorem one_ok :OneOk:=by
 intro w hP hM hD
 have H0:=Hd (Z08 (sep_old w))
 go_enter func5,ntmps5
 go_wp2_with fail
 refine Mo H0 ?_
 rintro e w1 ⟨kb,M,C,cg,ch,A,c,rfl,h1⟩
 have h1':=h1.newBlk 47 rtV.toArray
 have H1:=Hd (gat_new w1.heap.size 1 (Nat.le_refl _) h1')
 clear H0 h1 h1'
 go_wp2_with fail
 refine Mo H1 ?_
 rintro e w2 ⟨G,K,RA,rc,Li,LM,LM2,St,CM,JM,S,MS,M2,C2,gg,hh,A2,cc,rfl,h2⟩
 have hcv:=Zlj w2.heap.size 1 1 (w2.alloc (.cells #[.int .u8 120] 5))
 have h3:=sep_byte h2
 obtain⟨W3,hW3⟩:=exl (Zih (w2.alloc (.cells #[.int .u8 120] 5)) w2.heap.size)
 rw[hW3]at h3 hcv
 have hM3:=hM.next (h3.old (i:=24) rfl)
 have ho1:=Sep.ordN h3 25 [18,19,20,21,22,23,0,1,2,3,4,5,6,7,8,9,10,11,12,13,14,15,16,17,24] rfl (by decide)
 simp only[Zbo,Zam,Zbd,erS,erZ,List.cons_append,List.nil_append,List.drop_succ_cons,List.drop_zero,List.drop_nil,List.append_nil]at ho1
 have H3:=Hd (cl_ask (bc:=1) (by decide) hM3 rfl (ib:=0) rfl ho1)
 clear H1 h2 h3 hM3 hW3
 go_wp2_with fail
 refine Mo H3 ?_
 rintro e w4 ⟨rfl,A4,c4,OA,oc,X,Q4,h4⟩
 simp only[Nat.reduceAdd]at h4
 rw[cli_eq]at h4
 have ho2:=Sep.ordN h4 26 [0,1,8,13,14,10,15,16,17,18,20,21,22,23,11,12,9,2,3,4,5,6,7,19,24,25] rfl (by decide)
 simp only[Zbo,Zam,Zbd,erS,erZ,List.cons_append,List.nil_append,List.drop_succ_cons,List.drop_zero,List.drop_nil,List.append_nil]at ho2
 have H4:=Hd (cr_seven hP (io:=8) rfl ho2)
 clear H3 h4 hcv
 go_wp2_with fail
 refine Mo H4 ?_
 rintro e w5 ⟨rfl,A5,c5,A6,c6,X2,Y,FA,fc,D,dc,fa,fc',ba,bc',ad,jc,h5⟩
 have H5:=Hd (ga_job h5 (ig:=2) rfl (ij:=6) rfl (ia:=7) rfl)
 clear H4 h5
 go_wp2_with fail
 refine Mo H5 ?_
 rintro e w6 ⟨JA,jc6,rfl,h6⟩
 have H6:=Hd (ec_ok hP hD (io:=23) rfl (ia:=0) rfl h6)
 clear H5 h6
 go_wp2_with fail
 refine Mo H6 ?_
 rintro e w7 ⟨b7,o7,c7,rfl,h45,h7⟩
 have ho3:=h7.nilRow 5 1
 have ho4:=Sep.ordN ho3 26 [5,15,23,6,0,11,12,13,14,7,8,9,1,2,3,4,10,16,17,18,19,20,21,22,24,25] rfl (by decide)
 simp only[Zbo,Zam,Zbd,erS,erZ,List.cons_append,List.nil_append,List.drop_succ_cons,List.drop_zero,List.drop_nil,List.append_nil]at ho4
 have H7:=Hd (ga_done (n:=0) (xs:=[]) (by decide) hP (io:=13) rfl (fun W hW=>hW.byt (i:=0) rfl) h45 ho4)
 clear H6 h7
 go_wp2_with fail
 refine Mo H7 ?_
 rintro e w8 ⟨rfl,A8,c8,Q8,GA,gc,log,h8⟩
 simp only[Nat.zero_add,List.nil_append]at h8
 have ho5:=Sep.ordN h8 22 [10,11,15,16,17,18,0,1,13,2,3,4,5,6,7,8,9,12,14,19,20,21] rfl (by decide)
 simp only[Zbo,Zam,Zbd,erS,erZ,List.cons_append,List.nil_append,List.drop_succ_cons,List.drop_zero,List.drop_nil,List.append_nil]at ho5
 have H8:=Hd (cr_three ho5)
 clear H7 h8
 go_wp2_with fail
 refine Mo H8 ?_
 rintro e w9 ⟨rfl,A9,c9,D9,dc9,DB,db,P9,h9⟩
 have H9:=Hd (cl_reply hP (io:=10) rfl h9)
 clear H8 h9
 go_wp2_with fail
 refine Mo H9 ?_
 rintro e w10 ⟨FA10,fl,BA,bl,rfl,h10⟩
 have h11:=h10.newBlk 69 #[.int .i64 200,.slice FA10 0 fl,.slice BA 4 bl]
 obtain⟨W11,hW11⟩:=exl (w10.alloc (.cells #[.int .i64 200,.slice FA10 0 fl,.slice BA 4 bl] 69))
 rw[hW11]at h11
 have kR:=h11.at_ (i:=0) rfl
 have k1:(convert 23 9 (.slice BA 4 bl)).run prog W11=.ok (.string ⟨#[47,112,33,120]⟩) W11:=Zb2 (l:=Zb6) (show Zab W11 W11.heap.size 1 BA Zb6.length (bs Zb6)from Zag h11 (i:=1) rfl) bl
 have H11:=Hd (h11.old (i:=12) rfl)
 clear H9 h10 h11
 go_wp2
 go_ret
 exact⟨rfl,H11.out⟩
end
section
open Go.ChangeShapes Go.WideShapes Go.RowKit
theorem Zkl {W:World}(h:laidMet prog Rows.topAlikeRow.laid W){n:String}{k:IntKind}{zs:List Int}{g0 t0 e nn:Nat}(hm:(n,Lib.tabData k zs)∈Rows.topAlikeRow.laid)(hg:prog.globalNamed n=some g0)(hty:(prog.globals[g0]?).map (·.type)=some t0)
  (ht:prog.underlying t0=some (.array nn e)) (he:prog.underlying e=some (.int k)) (hce:prog.cellsOf e=1) (hct:prog.cellsOf t0=nn):Lib.TabIs prog W n k zs:=by
 obtain⟨g,t,cs,fuel,p,h1,h2,h3,h4⟩:=Lib.laidMet.reads h hm
 obtain rfl:=Option.some.inj (hg.symm.trans h1)
 obtain rfl:=Option.some.inj (hty.symm.trans h2)
 unfold Lib.TabIs
 rw[h3,<-Lib.cells_of_tab ht he hce hct h4]
theorem Zr6 {W:World}(h:laidMet prog Rows.topAlikeRow.laid W):Pow W:=
 Zkl h (n:= "internal/strconv.uint64pow10") (k:=.u64) (zs:=Lib.pow10Tab) (g0:=0) (t0:=343) (e:=289) (nn:=20)
  (show("internal/strconv.uint64pow10",Rows.laid_internal_strconv_uint64pow10)∈Rows.topAlikeRow.laid by simp[Rows.topAlikeRow]) (by kernel_rfl) (by kernel_rfl) (by kernel_rfl) (by kernel_rfl) (by kernel_rfl) (by kernel_rfl)
def deBTab :List Int:=[0,1,56,2,57,49,28,3,61,58,42,50,38,29,17,4,62,47,59,36,45,43,51,22,53,39,33,30,24,18,12,5,63,55,48,27,60,41,37,16,46,35,44,21,52,32,23,11,54,26,40,15,34,20,31,10,25,14,19,9,13,8,7,6]
theorem Zs2 {W:World}(h:laidMet prog Rows.topAlikeRow.laid W):DeB W:=
 (Zkl h (n:= "math/bits.deBruijn64tab") (k:=.u8) (zs:=deBTab) (g0:=7) (t0:=398) (e:=5) (nn:=64)
  (show("math/bits.deBruijn64tab",Rows.laid_math_bits_deBruijn64tab)∈Rows.topAlikeRow.laid by simp[Rows.topAlikeRow]) (by kernel_rfl) (by kernel_rfl) (by kernel_rfl) (by kernel_rfl) (by kernel_rfl) (by kernel_rfl)).cell (by kernel_rfl) 15 (by decide)
theorem Zoa {W:World}(h:W.ShapedOpen prog):Zxh W:=
 cell_of_shapedOpen_int (g:=1) (t:=3) (zero:= #[.int .i64 0]) h (of_decide_eq_true (by kernel_rfl)) (by kernel_rfl) rfl (by kernel_rfl) (by kernel_rfl) underlying3
noncomputable def Zgh (os:Os):World:=World.laidAll prog os Rows.topAlikeRow.laid
theorem Zoc (os:Os)(args:Array Value):laidMetH prog Rows.topAlikeRow.laid ((Zgh os).forCall (fun _ _=>0) ⟨#[],args,[]⟩).memory:=by
 rw[Go.MakeChecks.laidMetH_plain _ _ _ (by kernel_rfl)]
 exact laidMet_laidAll _ (by kernel_rfl) (by kernel_rfl)
theorem Zjx (os:Os)(args:Array Value):((Zgh os).forCall (fun _ _=>0) ⟨#[],args,[]⟩).Shaped prog:=World.shaped_of_ZipB (by kernel_rfl) (by kernel_rfl)
end
section
open Go.ChangeShapes Go.WideShapes Go.ChangeAt Go.RowKit Go.Deep
open Go.ChangeMaps (open_string shut_string)
section
variable {H:Type} {enc:TypeId×Value->H} {W:World}
theorem Zf9 {t u:TypeId}{fs:Array Field}{ps:List (DataW H)}{j:Nat}{d:DataW H}(h:Wok t (.agg ps))(ht:prog.underlying t=some (.struct fs))(hj:(fs.toList.map (·.type))[j]? =some u)(hd:ps[j]? =some d):Wok u d:=fun n hn=>by
 refine h n ?_
 simp only[DataW.weights,ht]
 exact DataW.weights_mem_each hj hd n hn
theorem Zmg {fuel:Nat}{cs:List Value}{x:DataW H×List MemPlace}(hf:DataW.trod enc prog W 0 (fun _=>true) true fuel 23 cs=some x)(hw:Wok 23 x.1):
  ∃A l c,cs=[.slice A l.length c]/\l.length<=c/\c<=140737488351232/\Zab W W.heap.size 1 A l.length (bs l):=by
 rcases open_ints underlying23 underlying5 Zva hf with⟨rfl,_⟩ | ⟨x,l,c,zs,rfl,_,hl,hm,hz,rfl,hcell,hwz⟩
 ·exact⟨none,[],0,rfl,Nat.le_refl _,Nat.zero_le _,Zab.none_⟩
 ·simp at hz
  obtain⟨l2,hl2,hr⟩:=Zl8 (n:=l) (by omega) hcell hwz
  have hr2:=(Zkj hw underlying23).1
  rw[bytes_u8]at hr2
  simp only[lits,List.length_map,List.length_take,List.length_drop,reachBytes]at hr2
  exact⟨some x,l2,c,by rw[hl2],by omega,by omega,by rw[hl2];exact hr⟩
end
end
section
open Go.ChangeShapes Go.WideShapes Go.ChangeAt Go.RowKit Go.Deep
section
variable {H:Type} {enc:TypeId×Value->H} {W:World}
theorem Zl9 {w:World}{A:Addr}{v:Value}(h:w.cell? ((A.add 0).add 0)=some v):A.spot=none:=by
 have h2:=World.cell?_spot h
 simpa [Addr.add]using h2
instance :Inhabited Rq:=⟨⟨[],[],[],[],[]⟩⟩
theorem Zlq {fuel:Nat}{cs:List Value}{x:DataW H×List MemPlace}(hf:DataW.trod enc prog W 0 (fun _=>true) true fuel 23 cs=some x)(hw:Wok 23 x.1):
  ∃A l c,cs=[.slice A l.length c]/\l.length<=140737488351232/\(A=none->c=0)/\Zab W W.heap.size 1 A l.length (bs l):=by
 obtain⟨A,l,c,h1,h2,h3,h4⟩:=Zmg hf hw
 refine⟨A,l,c,h1,by omega,?_,h4⟩
 rintro rfl
 rcases open_ints underlying23 underlying5 Zva hf with⟨h5,_⟩ | ⟨x,l5,c5,zs,h5,_⟩
 ·rw[h1]at h5
  simp only[List.cons.injEq,Value.slice.injEq,and_true]at h5
  exact h5.2.2
 ·rw[h1]at h5
  simp at h5
theorem Zpq {fuel:Nat}{cs:List Value}{x:DataW H×List MemPlace}(hl:cs.length=5)(hf:DataW.trod enc prog W 0 (fun _=>true) true fuel 25 cs=some x)(hw:Wok 25 x.1):
  ∃(r:Rq) (FA BA:Option Addr) (fc bc:Nat),cs=(Zcf r.m r.p r.h FA r.fs.length fc BA r.b.length bc).toList/\RqAt W (Zcf r.m r.p r.h FA r.fs.length fc BA r.b.length bc) r FA BA fc bc:=by
 obtain⟨f0,f1,f2,f3,f4,he,hone,t0,t1,t2,t3,t4⟩:∃f0 f1 f2 f3 f4:Field,prog.underlying 25=some (.struct #[f0,f1,f2,f3,f4])/\oneCellFields prog #[f0,f1,f2,f3,f4]=true/\f0.type=9/\f1.type=9/\f2.type=9/\f3.type=22/\f4.type=23:=
  ⟨_,_,_,_,_,underlying25,by kernel_rfl,rfl,rfl,rfl,rfl,rfl⟩
 match cs,hl with
 | [v0,v1,v2,v3,v4],_=>
  obtain⟨xs,n,_,hx,-,hlen,hff⟩:=DataW.trod_struct he hf
  match xs,hlen with
  | [y0,y1,y2,y3,y4],_=>
   obtain⟨o0,k0⟩:=hone_of hone 0 f0 rfl
   obtain⟨o1,k1⟩:=hone_of hone 1 f1 rfl
   obtain⟨o2,k2⟩:=hone_of hone 2 f2 rfl
   obtain⟨o3,k3⟩:=hone_of hone 3 f3 rfl
   obtain⟨o4,k4⟩:=hone_of hone 4 f4 rfl
   have h0:=hff 0 f0 rfl
   have h1:=hff 1 f1 rfl
   have h2:=hff 2 f2 rfl
   have h3:=hff 3 f3 rfl
   have h4:=hff 4 f4 rfl
   simp only[o0,o1,o2,o3,o4,k0,k1,k2,k3,k4,List.drop_succ_cons,List.drop_zero,List.take_succ_cons,List.take_zero,List.getElem?_cons_succ,List.getElem?_cons_zero]at h0 h1 h2 h3 h4
   rw[t0]at h0
   rw[t1]at h1
   rw[t2]at h2
   rw[t3]at h3
   rw[t4]at h4
   rw[hx]at hw
   have w0:Wok 9 y0.1:=Zf9 hw he (j:=0) (by simp[t0]) rfl
   have w1:Wok 9 y1.1:=Zf9 hw he (j:=1) (by simp[t1]) rfl
   have w2:Wok 9 y2.1:=Zf9 hw he (j:=2) (by simp[t2]) rfl
   have w3:Wok 22 y3.1:=Zf9 hw he (j:=3) (by simp[t3]) rfl
   have w4:Wok 23 y4.1:=Zf9 hw he (j:=4) (by simp[t4]) rfl
   obtain⟨s0,e0,d0⟩:=Zec h0
   obtain⟨s1,e1,d1⟩:=Zec h1
   obtain⟨s2,e2,d2⟩:=Zec h2
   rw[d0]at w0
   rw[d1]at w1
   rw[d2]at w2
   obtain⟨FA,fs,fc,e3,q1,q2,q3,q4⟩:=Zle h3 w3
   obtain⟨BA,b,bc,e4,q5,q6,q7⟩:=Zlq h4 w4
   simp only[List.cons.injEq,and_true]at e3 e4
   subst e0 e1 e2 e3 e4
   have z0:=Zki w0
   have z1:=Zki w1
   have z2:=Zki w2
   exact⟨⟨s0,s1,s2,fs,b⟩,FA,BA,fc,bc,rfl,⟨rfl,q4,q7,q6,by simp only;omega,by simp only;omega,by simp only;omega,fun f hf=>by have:=q3 f hf;unfold fOk at this;omega,by simp only;omega,by simp only;omega⟩⟩
theorem Zzf {ts:List TypeId}{ds:List (DataW H)}{base j:Nat}{v:Value}{d:DataW H}{p:List MemPlace}(hval:Value.okWide prog W .any base 45 v)(h:DataW.Trod enc prog W 0 (fun _=>true) true 45 v d p)
  (hsz:(DataW.weightsEach prog ts ds).all (·<=reachBytes)=true) (ht:ts[j]? =some 45) (hd:ds[j]? =some d):
  ∃A rqs c,v=.slice A rqs.length c/\rqs.length<=c/\rqs.length<=140737488355328/\RqsAt W A rqs:=by
 obtain⟨a0,len0,cap0,rfl⟩:=okWide_slice underlying45 hval
 obtain⟨fuel,hf⟩:=h
 have hw:=wok_arg hsz ht hd
 have hce:prog.cellsOf 25=5:=by kernel_rfl
 rcases open_slice underlying45 hf with⟨hcs,_⟩ | ⟨a,len,cap,m,n,D,Pl,hcs,hb,hl,hm,hmm,hx0,hx⟩
 ·simp[Value.cells]at hcs
  obtain⟨rfl,rfl,rfl⟩:=hcs
  exact⟨none,[],0,rfl,Nat.le_refl _,by simp,fun h0=>absurd h0 (by simp)⟩
 ·simp[Value.cells]at hcs
  obtain⟨rfl,rfl,rfl⟩:=hcs
  simp only[if_true]at hmm
  simp only[Prod.mk.injEq]at hx0
  rw[hx0.1]at hw
  obtain⟨hw1,hw2⟩:=Zkj hw underlying45
  simp only[List.length_map,List.length_range]at hw1
  rw[show prog.bytesOf 25=96 by kernel_rfl]at hw1
  simp only[reachBytes]at hw1
  rw[hce]at hx
  have each:∀i,i < len0->∃y:Rq×Option Addr×Option Addr×Nat×Nat,RqAt W (Zcf y.1.m y.1.p y.1.h y.2.1 y.1.fs.length y.2.2.2.1 y.2.2.1 y.1.b.length y.2.2.2.2) y.1 y.2.1 y.2.2.1 y.2.2.2.1 y.2.2.2.2/\
    ∀j,j < 5->W.cell? ((a.add (i*5)).add j)=(Zcf y.1.m y.1.p y.1.h y.2.1 y.1.fs.length y.2.2.2.1 y.2.2.1 y.1.b.length y.2.2.2.2)[j]? :=by
   intro i hi
   obtain⟨cs',h1,h2⟩:=hx i (by omega)
   obtain⟨_,hlen,hcell⟩:=World.cells?_some h1
   obtain⟨r,FA,BA,fc,bc,e,hr⟩:=Zpq hlen h2 (hw2 (D i) (List.mem_map.2 ⟨i,List.mem_range.2 hi,rfl⟩))
   refine⟨(r,FA,BA,fc,bc),hr,fun j hj=> ?_⟩
   rw[hcell j hj,e,Array.getElem?_toList]
  obtain⟨y,hy⟩:=choose_lt each
  have hlen:((List.range len0).map fun i=>(y i).1).length=len0:=by simp
  refine⟨some a,(List.range len0).map fun i=>(y i).1,cap0,by rw[hlen],by omega,by omega,fun h0=> ?_⟩
  rw[hlen]at h0
  have hp0:=(hy 0 h0).2 0 (by decide)
  rw[Nat.zero_mul]at hp0
  have hp:a.spot=none:=Zl9 hp0
  obtain⟨b,off,spot⟩:=a
  simp only at hp
  subst hp
  refine⟨b,off,rfl,fun i hi=> ?_⟩
  rw[hlen]at hi
  have hk2:((List.range len0).map fun i=>(y i).1)[i]'(by rw[hlen];exact hi)=(y i).1:=by simp
  rw[hk2]
  obtain⟨h1,h2⟩:=hy i hi
  refine⟨_,_,_,_,h1,fun j hj=> ?_⟩
  have h3:=h2 j hj
  rw[Addr.add_lit,Addr.add_lit]at h3
  exact h3
end
end
end Go.Proofs.YtbgnggkgmeagkaaGreatDoor
