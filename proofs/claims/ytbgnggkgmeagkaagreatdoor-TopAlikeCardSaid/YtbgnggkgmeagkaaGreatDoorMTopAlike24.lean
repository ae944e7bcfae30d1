/-
  A part of the proof of TopAlike: each theorem states its own conditions.
-/
import Derived.Test.YtbgnggkgmeagkaaGreatDoorMTopAlike23
set_option linter.unusedSimpArgs false
set_option linter.unusedVariables false
set_option maxRecDepth 100000
set_option maxHeartbeats 16000000
namespace Go.Proofs.YtbgnggkgmeagkaaGreatDoor
open Go.Proofs.Tryz
section
open Go.RowKit Go.Shelf
theorem Zue {w:World}{lim size n k:Nat}{A:Option Addr}{xs:List Value}(h:Zab w lim size A n xs)(e:n=k):Zab w lim size A k xs:=e ▸ h
theorem vj_put {w:World}{L:List Zae}{M j:Nat}{gl:List (Int×Value)}{id:Int}{v:Value}(h:Sep w L)(hj:L[j]? =some (Zan Zat M gl))(hv:Za8 gl id=none):∃es c,(Instr.mapUpdate 117 (.map (some M)) (.int .i64 id) v).run prog w=.ok () (putM w M es c)/\Hid (Sep (putM w M es c) (L.set j (Zan Zat M (gl++[(id,v)])))):=by
 obtain⟨es,c,h1,h2⟩:=h.updN (P:=prog) (t:=117) Zja hj underlying117 underlying3 hv v
 exact⟨es,c,h1,Hd h2⟩
theorem vw_job {w w0:World}{F:List Zae}{io rg rc g kb Li LM LM' St CM JM Y nf fc n dc qn:Nat}{FA D:Option Addr}{log:Value}{id jl J1:Int}{jo:List (Int×Value)}{r tq:List UInt8}{gl:List (Int×Value)}{fl qs:List Fld}{m p hh b:List UInt8}{f:List UInt8->Option Nat}{sl ll:List (List UInt8×Value)}{bl:List (Nat×Nat)}{Q:World->Prop}(hP:Pow w0)(hio:F[io]? =some (Zel w0))(hgv:Za8 gl id=some (ptr Y))
  (hO:Zj0 f sl ll bl) (hll:ll.length<=8) (hno:decide (1<=(f hh).getD 5)=true) (hJ:jl+1=J1) (hJw:wrap64 J1=J1) (hjo:Za8 jo J1=none) (hqn:qn=qs.length) (hnb:n=b.length) (hE:Zf8 m r hh qs b.length=0) (hpl:p.length<=1000000) (hrest:Zpp p=.tuple #[.string ⟨tq.toArray⟩,.string ⟨r.toArray⟩,.nilIface])
  (hF:∀w1:World,Zab w1 w1.heap.size 2 FA nf (fvs fl)->Zab w1 w1.heap.size 1 D n (bs b)->CA 12 #[.slice FA nf fc,.slice D n dc] w1 fun e w'=>(∃fa fc2 ba bc2,e=.returned (.tuple #[.agg (Zcf m p hh fa qn fc2 ba n bc2),.nilIface])/\w'.ownsRow w1.heap.size 41 2 (.slice fa qn fc2) qn (fvs qs)/\w'.ownsRow w1.heap.size 5 1 (.slice ba n bc2) n (bs b))/\Below w1.heap.size w1 w')
  (h:Sep w (Zaa g 120 (Za7 kb (.slice (some ⟨rg,0,none⟩) 2 rc) Li St CM JM jl log)::Zan Zat CM gl::Zaa Y 146 (Zdl (.slice FA nf fc) (.slice D n dc))::Zad 41 2 (.slice FA nf fc) nf (fvs fl)::Zad 5 1 (.slice D n dc) n (bs b)::
   Zaa Li 193 #[.int .i64 5,.int .i64 5,.map (some LM),.map (some LM')]::Zan Zed LM' sl::Zan Zed LM ll::Zo5 bl::Zaa St 203 #[.slice none 0 0]::Zad 47 3 (.slice (some ⟨rg,0,none⟩) 2 rc) 2 Zjv::Zan Zat JM jo::F))
  (hA:∀w2 ad c fa fc2 ba bc2 sl' ll' bl',(Zjt m r hh qs b).length<=c->Zj0 (limS f hh) sl' ll' bl'->ll'.length<=ll.length+1->Sep w2 (Zir ad (Zjt m r hh qs b)::Zaa g 120 (Za7 kb (.slice (some ⟨rg,0,none⟩) 2 rc) Li St CM JM J1 log)::Zan Zat CM gl::Zaa Y 146 (Zd0 (.slice FA nf fc) (.slice D n dc) (.string ⟨m.toArray⟩) (.string ⟨p.toArray⟩) (.string ⟨hh.toArray⟩) (.slice fa qn fc2) (.slice ba n bc2) 0)::
   Zaa Li 193 #[.int .i64 5,.int .i64 5,.map (some LM),.map (some LM')]::Zan Zed LM' sl'::Zan Zed LM ll'::Zo5 bl'::Zaa St 203 #[.slice none 0 0]::Zad 47 3 (.slice (some ⟨rg,0,none⟩) 2 rc) 2 Zjv::Zan Zat JM (jo++[(J1,.agg #[.int .i64 id,.string ⟨tq.toArray⟩,.slice (some ad) (Zjt m r hh qs b).length c])])::F)->Q w2):
  CA 167 #[.pointer (some ⟨g,0,none⟩),.int .i64 id] w fun e w'=>e=.returned (.tuple #[])/\Q w':=by
 have kG:=h.at_ (i:=0) rfl
 have kY:=h.at_ (i:=2) rfl
 have ql:(Instr.lookup 116 (.map (some CM)) (.int .i64 id) false).run prog w=.ok (.pointer (some ⟨Y,0,none⟩)) w:=h.lookV (P:=prog) Zja (i:=1) rfl underlying116 underlying3 hgv false
 have n1:=h.ne_ (i:=0) (i':=2) rfl rfl (by decide)
 have n2:=Ne.symm n1
 have H:=Hd h
 have HA:=Hd hA
 have HFA:=Hd hF
 have HPO:=Hd (And.intro hP hio)
 have HLI:=Hd (fun(w3:World) F3 h3=>Zxu (w:=w3) (F:=F3) (Li:=Li) (LM:=LM) (LM':=LM') hh hO hll h3)
 rw[hno]at HLI
 have HRO:=Hd (And.intro hpl hrest)
 have HJO:=Hd (And.intro hjo (And.intro hqn (And.intro hnb hE)))
 unfold Za7 at kG
 unfold Zdl Zd0 at kY
 clear h hA hF hP hio hgv hO hll hno hpl hrest hjo hqn hnb hE
 go_enter func167,ntmps167
 go_wp2_with fail
 obtain⟨w1,hw1⟩:=exl (w.setCell ⟨Y,8,none⟩ (.int .i64 0))
 have h1:=H.out.set_ (i:=2) rfl 8 (.int .i64 0)
 rw[hw1]at h1⊢
 change Sep w1 (_::_::Zaa Y _ (Zdl (.slice FA nf fc) (.slice D n dc))::_)at h1
 clear kG kY ql n1 n2 H hw1
 have kG:=h1.at_ (i:=0) rfl
 have kY:=h1.at_ (i:=2) rfl
 have HF:=Hd (HFA.out _ (Zab.of_own (h1.drew.row (i:=3) rfl)) (Zag h1.drew (i:=4) rfl))
 have H1:=Hd h1.drew
 unfold Za7 at kG
 unfold Zdl Zd0 at kY
 clear h1 HFA
 go_wp2_with fail
 have f0:w1.cell? ⟨Y,0,none⟩=some (.slice FA nf fc):=kY.1 0
 have f1:w1.cell? ⟨Y,1,none⟩=some (.slice D n dc):=kY.1 1
 go_region_held3 (fun w'=>w'.cell? ⟨Y,0,none⟩=some (.slice FA nf fc)/\w'.cell? ⟨Y,1,none⟩=some (.slice D n dc)) (first | (with_reducible exact⟨f0,f1⟩) | (with_reducible exact⟨g0,g1⟩) | (with_reducible exact⟨k0,k1⟩) | go_keep)
  (first | (go_at_call 12;refine HF.out.mono ?_;rintro e w2 ⟨⟨fa,fc2,ba,bc2,rfl,ho1,ho2⟩,hb2⟩;have HO1:=Hd ho1;have HO2:=Hd ho2;have h2:=H1.out.newSnap hb2;have kY2:=h2.at_ (i:=3) rfl;have g0:w2.cell? ⟨Y,0,none⟩=some (.slice FA nf fc):=kY2.1 0;have g1:w2.cell? ⟨Y,1,none⟩=some (.slice D n dc):=kY2.1 1;obtain⟨H3,k0,k1⟩:=Zkd h2 (.string ⟨m.toArray⟩) (.string ⟨p.toArray⟩) (.string ⟨hh.toArray⟩) (.slice fa qn fc2) (.slice ba n bc2);unfold Zdl Zd0 at kY2;clear h2 hb2 ho1 ho2))
 obtain⟨w3,hw3⟩:=exl ((((((w2.setCell ⟨Y,3,none⟩ (.string ⟨m.toArray⟩)).setCell ⟨Y,4,none⟩ (.string ⟨p.toArray⟩)).setCell ⟨Y,5,none⟩ (.string ⟨hh.toArray⟩)).setCell ⟨Y,6,none⟩ (.slice fa qn fc2)).setCell ⟨Y,7,none⟩ (.slice ba n bc2)))
 have h3:=H3.out
 rw[hw3]at h3⊢
 clear kG kY f0 f1 g0 g1 k0 k1 kY2 HF H1 H3 hw3
 have kG:=h3.at_ (i:=1) rfl
 have kY:=h3.at_ (i:=3) rfl
 have h4:=Sep.ordN h3.drew 10 [6,7,8,9,0,1,2,3,4,5] rfl (by decide)
 simp only[Zbo,Zbd,Zam]at h4
 have H3:=Hd h4
 have p0:w3.cell? ⟨g,2,none⟩=some (.pointer (some ⟨Li,0,none⟩)):=kG.1 2
 have p1:w3.cell? ⟨Y,5,none⟩=some (.string ⟨hh.toArray⟩):=kY.1 5
 have p2:w3.cell? ⟨g,7,none⟩=some (.int .i64 0):=kG.1 7
 have pl:=kG.2.2
 have pl2:=kY.2.2
 clear kG kY h3 h4
 go_wp2
 go_region_held3 (fun w'=>w'.cell? ⟨g,2,none⟩=some (.pointer (some ⟨Li,0,none⟩))/\w'.cell? ⟨Y,5,none⟩=some (.string ⟨hh.toArray⟩)/\w'.cell? ⟨g,7,none⟩=some (.int .i64 0)) (first | (with_reducible exact⟨p0,p1,p2⟩) | (with_reducible exact⟨s0,s1,s2⟩) | go_keep)
  (first | (go_at_call 231;refine(HLI.out _ _ H3.out).mono ?_;rintro e w4 ⟨rfl,sl',ll',bl',hO4,hl4,h4⟩;have HO4:=Hd (And.intro hO4 hl4);have kG4:=h4.at_ (i:=5) rfl;have kY4:=h4.at_ (i:=7) rfl;have s0:w4.cell? ⟨g,2,none⟩=some (.pointer (some ⟨Li,0,none⟩)):=kG4.1 2;have s1:w4.cell? ⟨Y,5,none⟩=some (.string ⟨hh.toArray⟩):=kY4.1 5;have s2:w4.cell? ⟨g,7,none⟩=some (.int .i64 0):=kG4.1 7;have s3:w4.cell? ⟨g,1,none⟩=some (.slice (some ⟨rg,0,none⟩) 2 rc):=kG4.1 1;have s4:w4.cell? ⟨Y,4,none⟩=some (.string ⟨p.toArray⟩):=kY4.1 4;have l4:=kG4.2.2;have l5:=kY4.2.2;have HT:=Hd (Zua h4.drew (i:=11) rfl);have HC4:2<=rc:=(Exists.elim (Znw h4 (i:=11) rfl) fun _ x=>x.2.2);have H4:=Hd h4.drew;clear h4 kG4 kY4 hO4 hl4))
 clear p0 p1 p2 pl pl2 s0 s2 HLI H3
 have HRS:=Hd (Zxq hh p rg rc HC4 HRO.out.1 _ HT.out)
 rw[HRO.out.2]at HRS
 go_wp2
 go_region_held3 (fun w'=>w'.cell? ⟨g,1,none⟩=some (.slice (some ⟨rg,0,none⟩) 2 rc)/\w'.cell? ⟨Y,5,none⟩=some (.string ⟨hh.toArray⟩)/\w'.cell? ⟨Y,4,none⟩=some (.string ⟨p.toArray⟩)) (first | (with_reducible exact⟨s3,s1,s4⟩) | (with_reducible exact⟨t3,t1,t4⟩) | go_keep)
  (first | (go_at_call 232;refine HRS.out.mono ?_;rintro e w5 ⟨rfl,hb5⟩;have h5:=H4.out.below hb5;have kG5:=h5.at_ (i:=5) rfl;have kY5:=h5.at_ (i:=7) rfl;have t3:w5.cell? ⟨g,1,none⟩=some (.slice (some ⟨rg,0,none⟩) 2 rc):=kG5.1 1;have t1:w5.cell? ⟨Y,5,none⟩=some (.string ⟨hh.toArray⟩):=kY5.1 5;have t4:w5.cell? ⟨Y,4,none⟩=some (.string ⟨p.toArray⟩):=kY5.1 4;have H5:=Hd h5;clear h5 kG5 kY5 hb5))
 clear s1 s3 s4 l4 l5 t1 t3 t4 HT H4 HRS
 have h5o:=Sep.ordN H5.out 13 [4,5,6,7,8,9,10,11,12,0,1,2,3] rfl (by decide)
 simp only[Zbo,Zbd,Zam]at h5o
 have H5:=Hd h5o
 clear h5o
 have kG:=H5.out.at_ (i:=1) rfl
 have kY:=H5.out.at_ (i:=3) rfl
 have u0:w5.cell? ⟨g,3,none⟩=some (.pointer (some ⟨St,0,none⟩)):=kG.1 3
 have u1:w5.cell? ⟨Y,3,none⟩=some (.string ⟨m.toArray⟩):=kY.1 3
 have u2:w5.cell? ⟨Y,4,none⟩=some (.string ⟨p.toArray⟩):=kY.1 4
 have u3:w5.cell? ⟨Y,5,none⟩=some (.string ⟨hh.toArray⟩):=kY.1 5
 have u4:w5.cell? ⟨Y,6,none⟩=some (.slice fa qn fc2):=kY.1 6
 have u5:w5.cell? ⟨Y,7,none⟩=some (.slice ba n bc2):=kY.1 7
 have u6:w5.cell? ⟨g,7,none⟩=some (.int .i64 0):=kG.1 7
 have h5:=H5.out.newBlk 69 #[.int .i64 0,.slice none 0 0,.slice none 0 0]
 have kG5:=h5.at_ (i:=2) rfl
 have kY5:=h5.at_ (i:=4) rfl
 have x0:(w5.alloc (.cells #[.int .i64 0,.slice none 0 0,.slice none 0 0] 69)).cell? ⟨g,3,none⟩=some (.pointer (some ⟨St,0,none⟩)):=kG5.1 3
 have x1:(w5.alloc (.cells #[.int .i64 0,.slice none 0 0,.slice none 0 0] 69)).cell? ⟨Y,3,none⟩=some (.string ⟨m.toArray⟩):=kY5.1 3
 have x2:(w5.alloc (.cells #[.int .i64 0,.slice none 0 0,.slice none 0 0] 69)).cell? ⟨Y,4,none⟩=some (.string ⟨p.toArray⟩):=kY5.1 4
 have x3:(w5.alloc (.cells #[.int .i64 0,.slice none 0 0,.slice none 0 0] 69)).cell? ⟨Y,5,none⟩=some (.string ⟨hh.toArray⟩):=kY5.1 5
 have x4:(w5.alloc (.cells #[.int .i64 0,.slice none 0 0,.slice none 0 0] 69)).cell? ⟨Y,6,none⟩=some (.slice fa qn fc2):=kY5.1 6
 have x5:(w5.alloc (.cells #[.int .i64 0,.slice none 0 0,.slice none 0 0] 69)).cell? ⟨Y,7,none⟩=some (.slice ba n bc2):=kY5.1 7
 have x6:(w5.alloc (.cells #[.int .i64 0,.slice none 0 0,.slice none 0 0] 69)).cell? ⟨g,7,none⟩=some (.int .i64 0):=kG5.1 7
 have H6:=Hd (h5.drew.front 7 rfl)
 have H6A:=Hd (H5.out.drew.front 6 rfl)
 clear kG kY H5 h5 kG5 kY5
 go_wp2
 go_region_held3 (fun w'=>w'.cell? ⟨g,3,none⟩=some (.pointer (some ⟨St,0,none⟩))/\w'.cell? ⟨Y,3,none⟩=some (.string ⟨m.toArray⟩)/\w'.cell? ⟨Y,4,none⟩=some (.string ⟨p.toArray⟩)/\w'.cell? ⟨Y,5,none⟩=some (.string ⟨hh.toArray⟩)/\w'.cell? ⟨Y,6,none⟩=some (.slice fa qn fc2)/\w'.cell? ⟨Y,7,none⟩=some (.slice ba n bc2)/\w'.cell? ⟨g,7,none⟩=some (.int .i64 0)) (first | (with_reducible exact⟨u0,u1,u2,u3,u4,u5,u6⟩) | (with_reducible exact⟨x0,x1,x2,x3,x4,x5,x6⟩) | (with_reducible exact⟨v0,v1,v2,v3,v4,v5,v6⟩) | (with_reducible exact⟨z0,z1,z2,z3,z4,z5,z6⟩) | (with_reducible exact⟨y0,y1,y2,y3,y4,y5,y6⟩) | go_keep)
  (first
  | (go_at_call 233;refine(Zxr m p hh H6A.out).mono ?_;rintro e w6 ⟨rfl,h6r⟩;have h6:=Sep.ordN h6r 7 [1,2,3,4,5,6,0] rfl (by decide);simp only[Zbo,Zbd,Zam]at h6;clear h6r;have kG6:=h6.at_ (i:=1) rfl;have kY6:=h6.at_ (i:=3) rfl;have v0:w6.cell? ⟨g,3,none⟩=some (.pointer (some ⟨St,0,none⟩)):=kG6.1 3;have v1:w6.cell? ⟨Y,3,none⟩=some (.string ⟨m.toArray⟩):=kY6.1 3;have v2:w6.cell? ⟨Y,4,none⟩=some (.string ⟨p.toArray⟩):=kY6.1 4;have v3:w6.cell? ⟨Y,5,none⟩=some (.string ⟨hh.toArray⟩):=kY6.1 5;have v4:w6.cell? ⟨Y,6,none⟩=some (.slice fa qn fc2):=kY6.1 6;have v5:w6.cell? ⟨Y,7,none⟩=some (.slice ba n bc2):=kY6.1 7;have v6:w6.cell? ⟨g,7,none⟩=some (.int .i64 0):=kG6.1 7;have h8:=h6.newBlk 69 #[.int .i64 0,.slice none 0 0,.slice none 0 0];have kR8:=h8.at_ (i:=0) rfl;have kG8:=h8.at_ (i:=2) rfl;have kY8:=h8.at_ (i:=4) rfl;have z0:(w6.alloc (.cells #[.int .i64 0,.slice none 0 0,.slice none 0 0] 69)).cell? ⟨g,3,none⟩=some (.pointer (some ⟨St,0,none⟩)):=kG8.1 3;have z1:(w6.alloc (.cells #[.int .i64 0,.slice none 0 0,.slice none 0 0] 69)).cell? ⟨Y,3,none⟩=some (.string ⟨m.toArray⟩):=kY8.1 3;have z2:(w6.alloc (.cells #[.int .i64 0,.slice none 0 0,.slice none 0 0] 69)).cell? ⟨Y,4,none⟩=some (.string ⟨p.toArray⟩):=kY8.1 4;have z3:(w6.alloc (.cells #[.int .i64 0,.slice none 0 0,.slice none 0 0] 69)).cell? ⟨Y,5,none⟩=some (.string ⟨hh.toArray⟩):=kY8.1 5;have z4:(w6.alloc (.cells #[.int .i64 0,.slice none 0 0,.slice none 0 0] 69)).cell? ⟨Y,6,none⟩=some (.slice fa qn fc2):=kY8.1 6;have z5:(w6.alloc (.cells #[.int .i64 0,.slice none 0 0,.slice none 0 0] 69)).cell? ⟨Y,7,none⟩=some (.slice ba n bc2):=kY8.1 7;have z6:(w6.alloc (.cells #[.int .i64 0,.slice none 0 0,.slice none 0 0] 69)).cell? ⟨g,7,none⟩=some (.int .i64 0):=kG8.1 7;have H7:=Hd h8;have l8:=kG6.2.2;have l9:=kY6.2.2;clear h6 h8 kG6 kY6 kG8 kY8)
  | (go_at_call 233;refine(Zxr m p hh H6.out).mono ?_;rintro e w6 ⟨rfl,h6r⟩;have h6:=Sep.ordN h6r 8 [1,2,3,4,5,6,7,0] rfl (by decide);simp only[Zbo,Zbd,Zam]at h6;clear h6r;have kR6:=h6.at_ (i:=0) rfl;have kG6:=h6.at_ (i:=2) rfl;have kY6:=h6.at_ (i:=4) rfl;have v0:w6.cell? ⟨g,3,none⟩=some (.pointer (some ⟨St,0,none⟩)):=kG6.1 3;have v1:w6.cell? ⟨Y,3,none⟩=some (.string ⟨m.toArray⟩):=kY6.1 3;have v2:w6.cell? ⟨Y,4,none⟩=some (.string ⟨p.toArray⟩):=kY6.1 4;have v3:w6.cell? ⟨Y,5,none⟩=some (.string ⟨hh.toArray⟩):=kY6.1 5;have v4:w6.cell? ⟨Y,6,none⟩=some (.slice fa qn fc2):=kY6.1 6;have v5:w6.cell? ⟨Y,7,none⟩=some (.slice ba n bc2):=kY6.1 7;have v6:w6.cell? ⟨g,7,none⟩=some (.int .i64 0):=kG6.1 7;have h8:=((h6.set_ (i:=0) rfl 0 (.int .i64 0)).set_ (i:=0) rfl 1 (.slice none 0 0)).set_ (i:=0) rfl 2 (.slice none 0 0);have kG8:=h8.at_ (i:=2) rfl;have kY8:=h8.at_ (i:=4) rfl;have y0:(((w6.setCell ⟨w5.heap.size,0,none⟩ (.int .i64 0)).setCell ⟨w5.heap.size,1,none⟩ (.slice none 0 0)).setCell ⟨w5.heap.size,2,none⟩ (.slice none 0 0)).cell? ⟨g,3,none⟩=some (.pointer (some ⟨St,0,none⟩)):=kG8.1 3;have y1:(((w6.setCell ⟨w5.heap.size,0,none⟩ (.int .i64 0)).setCell ⟨w5.heap.size,1,none⟩ (.slice none 0 0)).setCell ⟨w5.heap.size,2,none⟩ (.slice none 0 0)).cell? ⟨Y,3,none⟩=some (.string ⟨m.toArray⟩):=kY8.1 3;have y2:(((w6.setCell ⟨w5.heap.size,0,none⟩ (.int .i64 0)).setCell ⟨w5.heap.size,1,none⟩ (.slice none 0 0)).setCell ⟨w5.heap.size,2,none⟩ (.slice none 0 0)).cell? ⟨Y,4,none⟩=some (.string ⟨p.toArray⟩):=kY8.1 4;have y3:(((w6.setCell ⟨w5.heap.size,0,none⟩ (.int .i64 0)).setCell ⟨w5.heap.size,1,none⟩ (.slice none 0 0)).setCell ⟨w5.heap.size,2,none⟩ (.slice none 0 0)).cell? ⟨Y,5,none⟩=some (.string ⟨hh.toArray⟩):=kY8.1 5;have y4:(((w6.setCell ⟨w5.heap.size,0,none⟩ (.int .i64 0)).setCell ⟨w5.heap.size,1,none⟩ (.slice none 0 0)).setCell ⟨w5.heap.size,2,none⟩ (.slice none 0 0)).cell? ⟨Y,6,none⟩=some (.slice fa qn fc2):=kY8.1 6;have y5:(((w6.setCell ⟨w5.heap.size,0,none⟩ (.int .i64 0)).setCell ⟨w5.heap.size,1,none⟩ (.slice none 0 0)).setCell ⟨w5.heap.size,2,none⟩ (.slice none 0 0)).cell? ⟨Y,7,none⟩=some (.slice ba n bc2):=kY8.1 7;have y6:(((w6.setCell ⟨w5.heap.size,0,none⟩ (.int .i64 0)).setCell ⟨w5.heap.size,1,none⟩ (.slice none 0 0)).setCell ⟨w5.heap.size,2,none⟩ (.slice none 0 0)).cell? ⟨g,7,none⟩=some (.int .i64 0):=kG8.1 7;have H7:=Hd h8;have l8:=kG6.2.2;have l9:=kY6.2.2;clear h6 h8 kG6 kY6 kG8 kY8))
 all_goals
  have h7:=H7.out
  first
   | (obtain⟨w7,hw7⟩:∃w7,w6.alloc (.cells #[.int .i64 0,.slice none 0 0,.slice none 0 0] 69)=w7:=⟨_,rfl⟩;rw[hw7]at h7⊢)
   | (obtain⟨w7,hw7⟩:∃w7,((w6.setCell ⟨w5.heap.size,0,none⟩ (.int .i64 0)).setCell ⟨w5.heap.size,1,none⟩ (.slice none 0 0)).setCell ⟨w5.heap.size,2,none⟩ (.slice none 0 0)=w7:=⟨_,rfl⟩;rw[hw7]at h7⊢)
  clear u0 u1 u2 u3 u4 u5 u6 x0 x1 x2 x3 x4 x5 x6 v0 v1 v2 v3 v4 v5 v6 l8 l9 H6 H6A H7
  try clear z0 z1 z2 z3 z4 z5 z6
  try clear y0 y1 y2 y3 y4 y5 y6
  try clear kR6
  try clear kR8
  clear hw7
  have kG:=h7.at_ (i:=2) rfl
  have kY:=h7.at_ (i:=4) rfl
  have H7:=Hd h7
  have qe:=Z0n
  unfold Za7 at kG
  unfold Zd0 at kY
  clear h7
  go_wp2_with fail
  have h8:=H7.out.newBlk 25 #[.string ⟨m.toArray⟩,.string ⟨r.toArray⟩,.string ⟨hh.toArray⟩,.slice fa qn fc2,.slice ba n bc2]
  have hP8:=HPO.out.1.next (h8.old (i:=io+15) HPO.out.2)
  have HR1:=Hd (Zuj h8 (i:=2) rfl HO1.out)
  have HR2:=Hd (Zuj h8 (i:=2) rfl HO2.out)
  have H8:=Hd h8
  clear h8 kG kY H7
  have HR3:=Hd (Zue HR1.out HJO.out.2.1)
  have HR4:=Hd (Zue HR2.out HJO.out.2.2.1)
  clear HR1 HR2
  refine(Zzt m r hh qs b HJO.out.2.2.2 fa qn fc2 HJO.out.2.1 ba n bc2 HJO.out.2.2.1 _ hP8 HR3.out HR4.out).mono ?_
  rintro e w9 ⟨v,rfl,ha⟩
  obtain⟨ad,jc,rfl,hjc,h9⟩:=H8.out.newByt ha
  have HJC:=Hd hjc
  clear ha hP8 HR3 HR4 H8 hjc
  have kG:=h9.at_ (i:=4) rfl
  have H9:=Hd h9
  unfold Za7 at kG
  clear h9
  obtain⟨al,hal⟩:=exl (Zjt m r hh qs b)
  rw[hal]at H9 HJC HA⊢
  clear hal
  go_wp2
  obtain⟨w10,hw10⟩:=exl (w9.setCell ⟨g,6,none⟩ (.int .i64 J1))
  have h10:=H9.out.set_ (i:=4) rfl 6 (.int .i64 J1)
  rw[hw10]at h10⊢
  change Sep w10 (_::_::_::_::Zaa g _ (Za7 kb (.slice (some ⟨rg,0,none⟩) 2 rc) Li St CM JM J1 log)::_)at h10
  clear kG H9 hw10
  have kG:=h10.at_ (i:=4) rfl
  obtain⟨es,cn,qm,H11⟩:=vj_put (v:=.agg #[.int .i64 id,.string ⟨tq.toArray⟩,.slice (some ad) al.length jc]) h10.drew (j:=11) rfl HJO.out.1
  unfold Za7 at kG
  clear h10
  go_region
  go_wp2
  refine bodyPost_end (results_none rfl _ _ _) rfl ?_
  have h12:=Sep.ordN H11.out 16 [0,4,5,6,12,13,14,15,9,10,11] rfl (by decide)
  simp only[List.eraseIdx_cons_succ,List.eraseIdx_cons_zero,List.set_cons_succ,List.set_cons_zero,Zbo,Zam,Zbd,List.cons_append,List.nil_append,List.drop_succ_cons,List.drop_zero]at h12
  exact⟨rfl,HA.out _ ad jc fa fc2 ba bc2 sl' ll' bl' HJC.out HO4.out.1 HO4.out.2 h12⟩
structure Rq where
 m:List UInt8
 p:List UInt8
 h:List UInt8
 fs:List Fld
 b:List UInt8
def Rq.l (r:Rq):List Fld:=Zc3 r.m r.p r.h r.fs
def Rq.q (r:Rq):List Fld:=(Zke ⟨[],none⟩ (Zjy r.fs)).l
def Rq.bad (r:Rq):Prop:=(Zjy r.fs).any (fun f=>Zds f.1)=true∨Zf8 r.m r.p r.h r.q r.b.length≠0
instance (r:Rq):Decidable r.bad:=by unfold Rq.bad;infer_instance
structure RqOk (r:Rq):Prop where
 e:Zf8 r.m r.p r.h r.fs r.b.length=0
 s:Ze7 r.l=0
 b:r.b.length<=900
theorem RqOk.len {r:Rq}(h:RqOk r):r.m.length<=400/\r.p.length<=400/\r.h.length<=400/\r.l.length<=40/\(∀f∈r.fs,Zwq f):=by
 obtain⟨q1,q2,q3,q4,q5,q6,q7⟩:=Zdw h.e
 refine⟨(Zcv q3).2.1,(Zb1 q4).2.1,Zbx q6,?_,Zdu _ q7⟩
 have h2:=h.s
 unfold Ze7 at h2
 by_cases h3:Za2 r.l=true
 ·simp[h3]at h2
 ·unfold Za2 at h3
  simp only[Bool.or_eq_true,decide_eq_true_eq,not_or]at h3
  omega
theorem Rq.l_exp (r:Rq):r.l=(Zhg,r.m)::(Zi7,r.p)::(Zho,r.h)::Zjy r.fs:=rfl
theorem fa_any {r:Rq}(h:RqOk r){FA D:Option Addr}{fc dc:Nat}(hD:D=none->dc=0)(w1:World)(h1:Zab w1 w1.heap.size 2 FA r.l.length (fvs r.l))(h2:Zab w1 w1.heap.size 1 D r.b.length (bs r.b)):
  CA 12 #[.slice FA r.l.length fc,.slice D r.b.length dc] w1 (FaPost w1 r.m r.p r.h (Zjy r.fs) r.b):=by
 obtain⟨q1,q2,q3,q4,q5⟩:=h.len
 have hl:r.l.length=(Zjy r.fs).length+3:=by rw[r.l_exp];simp
 have hb:=h.b
 have htot:tot (Zjy r.fs)<=1000000:=by
  have h3:=Zpb (Zjy r.fs) 400 (fun f hf=>by
   obtain⟨g,hg,e1,e2⟩:=Zon hf
   have:=Zbx (q5 g hg).2.1
   omega)
  have h4:(Zjy r.fs).length*(400+2)<=40*(400+2):=Nat.mul_le_mul_right _ (by omega)
  omega
 refine Zu2 r.m r.p r.h (Zjy r.fs) r.b (by omega) (by omega) (by omega) (rest_ok q5) (by omega) htot (by omega) FA r.l.length fc (by rw[hl];simp[Zc3,Zjy];omega) D r.b.length dc rfl hD w1 ?_ h2
 rw[hl,r.l_exp]at h1
 exact h1
theorem fa_no {r:Rq}(h:RqOk r)(hbad:r.bad){FA D:Option Addr}{fc dc:Nat}(hD:D=none->dc=0)(w1:World)(h1:Zab w1 w1.heap.size 2 FA r.l.length (fvs r.l))(h2:Zab w1 w1.heap.size 1 D r.b.length (bs r.b)):
  CA 12 #[.slice FA r.l.length fc,.slice D r.b.length dc] w1 fun e w'=>(∃t u,e=.returned (.tuple #[.agg #[Zvm,Zvm,Zvm,.slice none 0 0,.slice none 0 0],.iface t u]))/\Below w1.heap.size w1 w':=by
 refine(fa_any h hD w1 h1 h2).mono ?_
 rintro e w' ⟨hb,hp⟩
 unfold Rq.bad Rq.q at hbad
 rw[if_pos hbad]at hp
 exact⟨hp,hb⟩
theorem fa_yes {r:Rq}(h:RqOk r)(hbad:¬r.bad){FA D:Option Addr}{fc dc:Nat}(hD:D=none->dc=0)(w1:World)(h1:Zab w1 w1.heap.size 2 FA r.l.length (fvs r.l))(h2:Zab w1 w1.heap.size 1 D r.b.length (bs r.b)):
  CA 12 #[.slice FA r.l.length fc,.slice D r.b.length dc] w1 fun e w'=>(∃fa fc2 ba bc2,e=.returned (.tuple #[.agg (Zcf r.m r.p r.h fa r.q.length fc2 ba r.b.length bc2),.nilIface])/\w'.ownsRow w1.heap.size 41 2 (.slice fa r.q.length fc2) r.q.length (fvs r.q)/\w'.ownsRow w1.heap.size 5 1 (.slice ba r.b.length bc2) r.b.length (bs r.b))/\Below w1.heap.size w1 w':=by
 refine(fa_any h hD w1 h1 h2).mono ?_
 rintro e w' ⟨hb,hp⟩
 unfold Rq.bad Rq.q at hbad
 rw[if_neg hbad]at hp
 exact⟨hp,hb⟩
theorem Rq.good {r:Rq}(h:¬r.bad):Zf8 r.m r.p r.h r.q r.b.length=0:=by
 unfold Rq.bad at h
 exact Decidable.byContradiction fun h2=>h (.inr h2)
def toV (p:List UInt8):Option (List UInt8×List UInt8):=if fit1 p then some ([111,110,101],Zrv (Lib.trimPrefix p [47,97]))else if fit0 p then some ([97,108,108],Zrv (Lib.trimPrefix p [47]))else none
theorem toV_no {p:List UInt8}(h:toV p=none):Zpp p=.tuple #[.string ⟨#[]⟩,.string ⟨#[]⟩,.iface 95 (.int .i64 5)]:=by
 unfold toV at h
 unfold Zpp
 split
 ·rename_i h1;rw[if_pos h1]at h;cases h
 ·rename_i h1
  rw[if_neg h1]at h
  split
  ·rename_i h2;rw[if_pos h2]at h;cases h
  ·rfl
theorem toV_yes {p tq r':List UInt8}(h:toV p=some (tq,r')):Zpp p=.tuple #[.string ⟨tq.toArray⟩,.string ⟨r'.toArray⟩,.nilIface]:=by
 unfold toV at h
 unfold Zpp
 split
 ·rename_i h1;rw[if_pos h1]at h;cases h;rfl
 ·rename_i h1
  rw[if_neg h1]at h
  split
  ·rename_i h2;rw[if_pos h2]at h;cases h;rfl
  ·rename_i h2;rw[if_neg h2]at h;cases h
theorem Zxm {l:List UInt8}(h0:l≠[])(h1:l.length<=400)(h2:∀y∈l,Zxf y=true/\(32:UInt8)≠y):Zc4 l=true:=by
 have t1:Lib.trimRightB l 32=l:=by
  rw[Lib.trimRightB_take l 32 l.length (Nat.le_refl _) (fun j b hj hb=>by have:=(List.getElem?_eq_some_iff.1 hb).1;omega) (fun b _ hb=>((h2 b (List.mem_of_getElem? hb)).2).symm),List.take_length]
 have t2:Lib.trimLeftB l 32=l:=by
  rw[Lib.trimLeftB_drop l 32 0 (Nat.zero_le _) (fun j b hj=>by omega) (fun b hb=>((h2 b (List.mem_of_getElem? hb)).2).symm),List.drop_zero]
 have t3:Lib.trimB l 32=l:=by unfold Lib.trimB;rw[t1,t2]
 have t4:decide (0<=Lib.indexByte l 32)=false:=by
  rw[Zd5]
  cases hc:l.contains 32
  ·rfl
  ·exact absurd rfl (h2 32 (List.contains_iff_mem.1 hc)).2
 have t5:l.all Zf7=true:=List.all_eq_true.2 fun y hy=>by
  have h3:=(h2 y hy).1
  unfold Zxf at h3
  unfold Zf7
  simp only[Bool.and_eq_true,decide_eq_true_eq]at h3⊢
  omega
 unfold Zc4 Zbp
 simp[h0,h1,t3,t4,t5]
theorem Zmn {p a:List UInt8}(hp:Zc4 p=true)(ha:1<=a.length)(hpre:Lib.hasPrefix p a=true):Zc4 (Zrv (Lib.trimPrefix p a))=true:=by
 obtain⟨h0,h1,h2⟩:=Zb1 hp
 unfold Lib.trimPrefix
 rw[if_pos hpre]
 have h3:∀y∈p.drop a.length,Zxf y=true/\(32:UInt8)≠y:=fun y hy=>h2 y (List.mem_of_mem_drop hy)
 have h4:(p.drop a.length).length+1<=400:=by
  rw[List.length_drop]
  have:p.length≠0:=fun e=>h0 (List.eq_nil_of_length_eq_zero e)
  omega
 unfold Zrv
 split
 ·rename_i h5
  refine Zxm (fun e=> ?_) (by omega) h3
  rw[e]at h5
  exact absurd h5 (by decide)
 ·refine Zxm (by simp) (by simpa using h4) fun y hy=> ?_
  rcases List.mem_cons.1 hy with rfl | hy
  ·exact⟨by decide,by decide⟩
  ·exact h3 y hy
theorem Zx8 {r:Rq}{tq r':List UInt8}(h0:Zf8 r.m r.p r.h r.q r.b.length=0)(h:toV r.p=some (tq,r')):Zf8 r.m r' r.h r.q r.b.length=0:=by
 obtain⟨-,-,-,hp,-⟩:=Zdw h0
 have hw:Zc4 r'=true:=by
  unfold toV at h
  split at h
  ·rename_i h1
   cases h
   unfold fit1 at h1
   exact Zmn hp (by decide) (Bool.and_eq_true_iff.1 h1).1
  ·split at h
   ·rename_i h1
    cases h
    exact Zmn hp (by decide) h1
   ·cases h
 unfold Zf8 at h0⊢
 rw[hw]
 rw[hp]at h0
 exact h0
def Z02 :List UInt8:=[99,111,100,105,110,103]
def chkL :List UInt8:=[58,32,99,104,117,110,107,101,100,13,10,13,10]
theorem Zos :∀y∈Z02,Zdp.contains y=true/\(58:UInt8)≠y:=by decide
theorem Zwp {w:World}{R c at_:Nat}{A:Option Addr}{l rest:List UInt8}(h:RdR w R A l c at_ (Z02++(chkL++rest))):
  CA 35 #[.pointer (some ⟨R,0,none⟩),.int .i64 0,.bool true] w fun e w'=>e=.returned (.tuple #[.slice none 0 0,.int .i64 (-1),.bool true])/\(∃a2,RdR w' R A l c a2 rest)/\Zac w.heap.size R w w':=by
 have hlt:=h.rd.blk.lt
 have hsm:=h.rd.sm
 have c0:=h.rd.blk.cell 0
 have c1:=h.rd.blk.cell 1
 have c2:=h.rd.blk.cell 2
 obtain⟨b,off,hA,hbR,hal,hcl⟩:=h.head (x:=99) (r:=[111,100,105,110,103]++(chkL++rest)) rfl
 have hai:((at_:Nat):Int) < ((l.length:Nat):Int):=by omega
 have hbw:=Nat.lt_trans hbR hlt
 subst hA
 have HU:=Hd (Zgb (x:=58) (s:=Z02) (rest:=chkL.drop 1++rest) (h.next ((Below.refl _ _).drew)) Zos (by decide))
 clear h
 go_enter func35,ntmps35
 go_wp2_with fail
 refine wp_loop_rounds 1 ?_
 rw[rounds_succ]
 go_wp2_with fail
 go_region
 go_wp2_with fail
 refine Mo HU ?_
 rintro e w1 ⟨rfl,⟨a3,hr3⟩,hb3⟩
 have d0:=hr3.rd.blk.cell 0
 have d1:=hr3.rd.blk.cell 1
 have d2:=hr3.rd.blk.cell 2
 have hl3:=hr3.rd.blk.lt
 have HN:=Hd (Zer hr3.rd)
 have HM:=Hd (Zcb (s:=chkL) (rest:=rest) hr3)
 have HB:=Hd ((Zac.refl w.heap.size R w).drew.next2 hb3)
 have hcc:(Z02==[108,101,110,103,116,104])=false:=by decide
 have hcc2:(Z02==[99,111,100,105,110,103])=true:=by decide
 clear hr3 hb3 HU
 go_wp2_with fail
 refine Mo HN ?_
 rintro e w2 ⟨rfl,rfl⟩
 go_wp2_with fail
 refine Mo HM ?_
 rintro e w4 ⟨rfl,hr4,hb4⟩
 have HR4:=Hd hr4
 have HB4:=Hd (HB.out.next2 hb4)
 clear hr4 hb4 HM HN HB
 go_wp2
 go_ret3
 exact⟨rfl,HR4.out,HB4.out⟩
def Zln :List UInt8:=[52,13,10,47,112,33,120,13,10,48,13,10,13,10]
def hexS :ByteArray:=⟨#[48,49,50,51,52,53,54,55,56,57,97,98,99,100,101,102]⟩
theorem Zz0 (c:UInt8)(w:World)(d:Int)(hd:Lib.indexByte hexS.data.toList c=d):CA 78 #[.string ⟨#[48,49,50,51,52,53,54,55,56,57,97,98,99,100,101,102]⟩,.int .u8 ((c.toNat:Nat):Int)] w fun e w'=>e=.returned (.int .i64 d)/\w'=w:=by
 have h:=Tryz.strings_IndexByte hexS ((c.toNat:Nat):Int) w
 have e:(((c.toNat:Nat):Int)).toNat.toUInt8=c:=by simp
 rw[e,hd]at h
 exact h
theorem Zzi (b off cap a:Nat)(c:UInt8)(d mo ai ni:Int)(hh:(a=0/\c=52/\d=4/\mo=8000/\ai=0/\ni=1)∨(a=9/\c=48/\d=0/\mo=7996/\ai=9/\ni=10))(w:World)(h0:w.cell? ⟨b,off+a,none⟩=some (.int .u8 ((c.toNat:Nat):Int)))(h1:w.cell? ⟨b,off+(a+1),none⟩=some (.int .u8 13)):
  CA 173 #[.slice (some ⟨b,off,none⟩) 14 cap,.int .i64 ai,.int .i64 mo] w fun e w'=>e=.returned (.tuple #[.int .i64 d,.int .i64 ni,.nilIface])/\w=w':=by
 have q1:=Zz0 13 w (-1) (by decide)
 have q0:=Zz0 52 w 4 (by decide)
 have q2:=Zz0 48 w 0 (by decide)
 have Q0:=Hd q0
 have Q1:=Hd q1
 have Q2:=Hd q2
 clear q0 q1 q2
 rcases hh with⟨rfl,rfl,rfl,rfl,rfl,rfl⟩ | ⟨rfl,rfl,rfl,rfl,rfl,rfl⟩
 all_goals
  simp only[Nat.add_zero,Nat.zero_add,Nat.reduceAdd]at h0 h1
  go_enter func173,ntmps173
  go_wp2
  refine wp_loop_rounds 2 ?_
  rw[rounds_succ]
  go_wp2_with (go_at_call 78;(first | refine Q0.out.mono ?_ | refine Q2.out.mono ?_);rintro e w' ⟨rfl,rfl⟩)
  rw[rounds_succ]
  go_wp2_with (go_at_call 78;refine Q1.out.mono ?_;rintro e w' ⟨rfl,rfl⟩)
  go_ret3
  exact⟨rfl,rfl⟩
def Zb6 :List UInt8:=[47,112,33,120]
def wideF :Frm:=⟨7,0,0,[0,0,0,4]⟩
def Zrn :List UInt8:=[0,0,4,7,0,0,0,0,0,0,0,0,4]
theorem Zts :Zeq wideF=0/\Zbh wideF=Zrn:=by decide
theorem cl_word (w:World):CA 297 #[.int .i64 4] w fun e w'=>∃A c,e=.returned (.slice A 4 c)/\Zab w' w'.heap.size 1 A 4 (bs [0,0,0,4])/\Below w.heap.size w w':=by
 have HB:=Hd (Zxo 4 4 (by decide) (by decide) (by decide) (by decide) w)
 go_enter func297,ntmps297
 go_wp2_with fail
 refine Mo HB ?_
 rintro e w1 ⟨v,rfl,hown,hb⟩
 obtain⟨A,c,rfl⟩:=Zas hown
 have HR:=Hd (Zab.of_own hown)
 have HW:=Hd hb
 clear hown hb
 go_wp2
 go_ret
 exact⟨_,_,rfl,HR.out,HW.out⟩
theorem Z04 {w:World}{L:List Zae}{i j k kb C M X c:Nat}{ord inn out part q rep body:Value}{win last on n:Int}{ends wt got:Bool}(h:Sep w L)(hi:L[i]? =some (Zaa kb 126 (Zau C M ord inn out win last part on ends)))(hj:L[j]? =some (Zak M (Zaw (.pointer (some ⟨X,0,none⟩))) c))(hk:L[k]? =some (Zaa X 130 (Zay n q wt rep got body false))):
  CA 296 #[.pointer (some ⟨kb,0,none⟩),.int .i64 1] w fun e w'=>e=.returned (.tuple #[.pointer (some ⟨X,0,none⟩),.bool true])/\Sep w' L:=by
 have kK:=h.at_ hi
 have kX:=h.at_ hk
 have ql:=h.look_call hj true
 have H:=Hd h
 unfold Zau at kK
 unfold Zay at kX
 clear h hi hj hk
 go_enter func296,ntmps296
 go_wp2
 go_quiet (fail)
 go_wp2
 go_ret2
 exact⟨rfl,H.out.drewN _⟩
theorem cl_data {w:World}{F:List Zae}{kb C M X n c mc bc:Nat}{A BA:Option Addr}{ord inn part q rep:Value}{xs:List UInt8}{win last on nw:Int}{ends:Bool}(hn:n<=1000)
  (h:Sep w (Zad 5 1 (.slice BA 4 bc) 4 (bs Zb6)::Zaa kb 126 (Zau C M ord inn (.slice A n c) win last part on ends)::Zad 5 1 (.slice A n c) n (bs xs)::Zak M (Zaw (.pointer (some ⟨X,0,none⟩))) mc::Zaa X 130 (Zay nw q false rep true (.slice none 0 0) false)::F)):
  CA 246 #[.pointer (some ⟨kb,0,none⟩),.agg #[.int .i64 0,.int .i64 1,.int .i64 1,.slice BA 4 bc]] w fun e w'=>e=.returned (.bool true)/\∃A' c' D dc,Sep w' (Zaa kb 126 (Zau C M ord inn (.slice A' (n+13) c') win last part on ends)::Zad 5 1 (.slice A' (n+13) c') (n+13) (bs (xs++Zrn))::
   Zak M (Zaw (.pointer (some ⟨X,0,none⟩))) mc::Zaa X 130 (Zay nw q false rep true (.slice D 4 dc) true)::Zad 5 1 (.slice D 4 dc) 4 (bs Zb6)::F):=by
 have h1:=(h.nilRow 5 1).newBlk 134 #[.int .i64 0,.int .i64 1,.int .i64 1,.slice BA 4 bc]
 have kX:=h1.at_ (i:=0) rfl
 have HO:=Hd (Z04 h1 (i:=3) (j:=5) (k:=6) rfl rfl rfl)
 clear h h1
 go_enter func246,ntmps246
 go_wp2_with fail
 refine Mo HO ?_
 rintro e w2 ⟨rfl,h2⟩
 clear kX HO
 have kX:=h2.at_ (i:=0) rfl
 have k6:=h2.at_ (i:=6) rfl
 have HR:=Hd (Zag h2.drew (i:=2) rfl)
 have H2:=Hd h2.drew
 unfold Zay at k6
 clear h2
 go_wp2_with fail
 have b11:(bits .and .i64 1 1 !=0)=true:=by decide
 go_region_law (refine Zcq rfl _ _ 23 5 rfl underlying23 Zbz rfl (by decide) (by decide) _ 0 [] H2.out (i:=1) rfl (by simp[Act.eval,Act.put]) BA 4 bc (bs Zb6) HR.out (Zcj _) (by simp[Act.eval,Act.put]) (by decide) ?_;intro A5 c5 w5 h5 _;have k6b:=h5.at_ (i:=6) rfl;have kX5:=h5.at_ (i:=0) rfl;have n1:=h5.ne_ (i:=6) (i':=0) rfl rfl (by decide);have n2:=Ne.symm n1;have H5:=Hd h5;unfold Zay at k6b;clear h5)
 all_goals
  go_wp2_with fail
  obtain⟨w7,hw7⟩:=exl ((w5.setCell ⟨X,5,none⟩ (.slice A5 4 c5)).setCell ⟨X,6,none⟩ (.bool true))
  have h7:=(H5.out.set_ (i:=6) rfl 5 (.slice A5 4 c5)).set_ (i:=6) rfl 6 (.bool true)
  rw[hw7]at h7⊢
  change Sep w7 (_::_::_::_::_::_::Zaa X _ (Zay nw q false rep true (.slice A5 4 c5) true)::_)at h7
  clear kX kX5 n1 n2 k6 k6b H5 H2 HR hw7
  refine(cl_word w7).mono ?_
  rintro e w8 ⟨A8,c8,rfl,hr8,hb8⟩
  have h8:=((h7.below hb8).front 4 rfl).front 4 rfl
  clear h7 hb8
  go_wp2_with fail
  refine(csay wideF Zts.1 A8 c8 hr8 kb (xs:=xs) (by omega) h8).mono ?_
  rintro e w9 ⟨rfl,A9,c9,h9⟩
  rw[Zts.2]at h9
  have kX:=h9.at_ (i:=6) rfl
  have H9:=Hd h9
  unfold Zay at kX
  clear h8 hr8 h9
  go_wp2
  go_ret
  exact⟨rfl,A9,c9,A5,c5,(((((H9.out.drop_ 2).drop_ 3).front 4 rfl).front 4 rfl).front 3 rfl).front 3 rfl⟩
def RdIn (F:List Zae)(ad:Addr)(l:List UInt8):Prop:=∀W,Sep W F->Zab W W.heap.size 1 (some ad) l.length (bs l)
theorem Zi1 {w:World}{b o n c:Nat}(k0:Nat){l m:List UInt8}(hr:Zab w w.heap.size 1 (some ⟨b,o,none⟩) n (bs l))(hc:n<=c)(hm:l.drop k0=m)(hk:k0 < n):
  Zab w w.heap.size 1 (some ⟨b,o+k0,none⟩) (n-k0) (bs m)/\∀k u,m[k]? =some u->w.cell? ⟨b,o+k0+k,none⟩=some (.int .u8 ((u.toNat:Nat):Int)):=by
 have h1:=hr.cut (Nat.le_of_lt hk) hc
 subst hm
 rw[Nat.mul_one,Zfy,if_neg (by omega),show(some (⟨b,o,none⟩:Addr)).map (fun a=>a.add k0)=some ⟨b,o+k0,none⟩by simp[Addr.add_lit]]at h1
 refine⟨h1,?_⟩
 intro k u hu
 obtain⟨b',off,e,-,hf⟩:=h1.form (by omega)
 cases e
 refine hf k _ ?_
 unfold bs
 rw[List.getElem?_map,hu]
 rfl
theorem Zeb {w:World}{b o n:Nat}{l:List UInt8}(hr:Zab w w.heap.size 1 (some ⟨b,o,none⟩) n (bs l))(hn:0 < n):∀k u,l[k]? =some u->w.cell? ⟨b,o+k,none⟩=some (.int .u8 ((u.toNat:Nat):Int)):=by
 intro k u hu
 obtain⟨b',off,e,-,hf⟩:=hr.form hn
 cases e
 refine hf k _ ?_
 unfold bs
 rw[List.getElem?_map,hu]
 rfl
def Zku :List UInt8:=[69,68,71,69,47,49,32,50,48,48,13,10,99,111,100,105,110,103,58,32,99,104,117,110,107,101,100,13,10,13,10]++Zln
theorem min_7 :(min 14 7:Int)=7:=by decide
theorem min_12 :(min 14 12:Int)=12:=by decide
theorem Z1e {w:World}{F:List Zae}{b o c:Nat}(h:Sep w F)(hR:RdIn F ⟨b,o,none⟩ Zln)(hc:14<=c):
  CA 119 #[.slice (some ⟨b,o,none⟩) 14 c] w fun e w'=>∃A c',e=.returned (.tuple #[.slice A 4 c',.int .i64 14,.nilIface])/\Sep w' (Zad 5 1 (.slice A 4 c') 4 (bs Zb6)::F):=by
 have hr0:=hR w h
 have hx0:=Zeb hr0 (by decide)
 have h0:=h.nilRow 5 1
 have M1:=Zgo Zln [13,10] 1 (by decide) (by decide) (by decide) (some ⟨b,o,none⟩) 14 c rfl w hr0
 have N1:=Zzi b o c 0 52 4 8000 0 1 (.inl ⟨rfl,rfl,rfl,rfl,rfl,rfl⟩) w (hx0 0 52 rfl) (hx0 1 13 rfl)
 have H0:=Hd h0
 have HM1:=Hd M1
 have HN1:=Hd N1
 have hm7:=min_7
 have hm12:=min_12
 clear h h0 hr0 hx0 M1 N1
 go_enter func119,ntmps119
 go_wp2
 refine wp_loop_rounds 2 ?_
 rw[rounds_succ]
 go_wp2_with fail
 refine Mo HN1 ?_
 rintro e w' ⟨rfl,rfl⟩
 go_wp2_with fail
 refine Mo HM1 ?_
 rintro e w1 ⟨rfl,hb1⟩
 have h1:=H0.out.below hb1
 have hr3:=(Zi1 (n:=14) 3 (hR w1 h1.tail) hc (m:=[47,112,33,120]++[13,10,48,13,10,13,10]) rfl (by decide)).1
 have HR3:=Hd (hr3.take (k:=4) (by decide))
 have H1:=Hd h1
 clear H0 HM1 HN1 hb1 h1 hr3
 go_wp2_with (at_builtin;refine Zjg rfl _ _ 23 5 rfl underlying23 Zbz rfl (by decide) (by decide) _ 0 [] H1.out (i:=0) rfl rfl _ 4 (c-3) (bs [47,112,33,120]) HR3.out (Zcj _) rfl (by decide) ?_;intro A2 c2 w2 h2 _;have H2:=Hd h2;clear h2)
 have h2:=H2.out
 change Sep w2 (Zad _ 1 (.slice A2 4 c2) 4 (bs Zb6)::F)at h2
 have h2':=Hd h2
 have hr2:=hR w2 h2.tail
 have M7:=Zgo Zln [13,10] 7 (by decide) (by decide) (by decide) (some ⟨b,o,none⟩) 14 c rfl w2 hr2
 have HM7:=Hd M7
 clear H1 HR3 H2 h2 hr2 M7
 go_wp2_with fail
 refine Mo HM7 ?_
 rintro e w3 ⟨rfl,hb3⟩
 have h3:=h2'.out.below hb3
 have hr3:=hR w3 h3.tail
 have hx3:=Zeb hr3 (by decide)
 have N9:=Zzi b o c 9 48 0 7996 9 10 (.inr ⟨rfl,rfl,rfl,rfl,rfl,rfl⟩) w3 (hx3 9 48 rfl) (hx3 10 13 rfl)
 have M10:=Zgo Zln [13,10] 10 (by decide) (by decide) (by decide) (some ⟨b,o,none⟩) 14 c rfl w3 hr3
 have HN9:=Hd N9
 have HM10:=Hd M10
 have H3:=Hd h3
 clear h2' HM7 hb3 h3 hr3 hx3 N9 M10
 go_wp2_with fail
 rw[rounds_succ]
 go_wp2_with fail
 refine Mo HN9 ?_
 rintro e w' ⟨rfl,rfl⟩
 go_wp2_with fail
 refine Mo HM10 ?_
 rintro e w4 ⟨rfl,hb4⟩
 have h4:=H3.out.below hb4
 have hr4:=(Zi1 (n:=14) 12 (hR w4 h4.tail) hc (m:=[13,10]) rfl (by decide)).1
 have HR4:=Hd (hr4.take (k:=0) (by decide))
 have H4:=Hd h4
 clear H3 HN9 HM10 hb4 h4 hr4
 go_wp2_with (at_builtin;refine Zjg rfl _ _ 23 5 rfl underlying23 Zbz rfl (by decide) (by decide) _ 4 _ H4.out (i:=0) rfl rfl _ 0 (c-12) [] HR4.out (Zcj []) rfl (by decide) ?_;intro A5 c5 w5 h5 _;have H5:=Hd h5;clear h5)
 have h5:=H5.out
 change Sep w5 (Zad _ 1 (.slice A5 4 c5) 4 (bs Zb6)::F)at h5
 have hr5:=hR w5 h5.tail
 have M12:=Zgo Zln [13,10] 12 (by decide) (by decide) (by decide) (some ⟨b,o,none⟩) 14 c rfl w5 hr5
 have HM12:=Hd M12
 have h5':=Hd h5
 clear H4 HR4 H5 h5 hr5 M12
 go_wp2_with fail
 refine Mo HM12 ?_
 rintro e w6 ⟨rfl,hb6⟩
 have h6:=Hd (h5'.out.below hb6)
 clear h5' HM12 hb6
 go_wp2
 go_ret3
 exact⟨A5,c5,rfl,h6.out⟩
theorem Zyw :Zku.length=45:=rfl
def Zr1 (b o c:Nat)(a:Int):Array Value:= #[.slice (some ⟨b,o,none⟩) 45 c,.int .i64 a,.nilIface]
theorem Zns {W:World}{L:List Zae}{iR R b o c:Nat}(a:Nat)(h:Sep W L)(hR:L[iR]? =some (Zaa R 77 (Zr1 b o c ((a:Nat):Int))))(h1:Zab W W.heap.size 1 (some ⟨b,o,none⟩) 45 (bs Zku))(hc:45<=c)(hbR:b < R)(ha:a<=45):
  RdR W R (some ⟨b,o,none⟩) Zku c a (Zku.drop a):=by
 refine⟨⟨h.blk hR,⟨h1.1,fun hn=> ?_⟩,ha,hc,by decide⟩,rfl⟩
 obtain⟨ad,e,-,hcl⟩:=h1.2 hn
 cases e
 exact⟨_,rfl,hbR,hcl⟩
theorem Zge {W W':World}{L:List Zae}{iR R b o c:Nat}{a:Int}{rest:List UInt8}(a2:Nat)(h:Sep W L)(hR:L[iR]? =some (Zaa R 77 (Zr1 b o c a)))(hr:∃a2,RdR W' R (some ⟨b,o,none⟩) Zku c a2 rest)(hb:Zac W.heap.size R W W')(ha:a2+rest.length=45):
  Sep W' (L.set iR (Zaa R 77 (Zr1 b o c ((a2:Nat):Int)))):=by
 obtain⟨a3,hr⟩:=hr
 have h3:a3=a2:=by have:=hr.len;rw[Zyw]at this;omega
 subst h3
 refine h.upd hR (show Zax (fun k=>k=R) _ _ from⟨hb.os,hb.tape,hb.output,hb.size,fun k hk hn=>hb.block k hk hn⟩) hr.rd.blk ?_ (fun k hk=> .inl hk)
 rintro k rfl
 exact hr.rd.blk.lt
theorem rt_ok {w:World}{F:List Zae}{b o c:Nat}(h:Sep w F)(hR:RdIn F ⟨b,o,none⟩ Zku)(hc:45<=c):
  CA 65 #[.slice (some ⟨b,o,none⟩) 45 c,.bool false,.bool false] w fun e w'=>∃A c',e=.returned (.tuple #[.agg #[.int .i64 200,.slice none 0 0,.slice A 4 c'],.int .i64 45,.nilIface])/\Sep w' (Zad 5 1 (.slice A 4 c') 4 (bs Zb6)::F):=by
 have hbl:b < w.heap.size:=by
  obtain⟨ad,e,hb,-⟩:=(hR w h).2 (by decide)
  cases e
  exact hb
 have h0:=(h.newBlk 69 #[.int .i64 0,.slice none 0 0,.slice none 0 0]).newBlk 77 (Zr1 b o c ((0:Nat):Int))
 simp only[World.size_alloc]at h0
 have r0:=Zns 0 h0 (iR:=0) rfl (hR _ h0.tail.tail) hc (by omega) (by decide)
 have HM:=Hd (Zcb (s:=[69,68,71,69,47,49,32]) (rest:=Zku.drop 7) r0)
 have H0:=Hd h0
 clear h h0 r0
 go_enter func65,ntmps65
 go_wp2_with fail
 refine Mo HM ?_
 rintro e w1 ⟨rfl,hr1,hb1⟩
 have h1:=Zge 7 H0.out (iR:=0) rfl hr1 hb1 rfl
 have kR:=h1.at_ (i:=0) rfl
 have kG:=h1.at_ (i:=1) rfl
 have n1:=h1.ne_ (i:=0) (i':=1) rfl rfl (by decide)
 have n2:=Ne.symm n1
 have hx:=Zeb (hR _ h1.tail.tail) (by decide)
 have x7:=hx 7 50 rfl
 have x8:=hx 8 48 rfl
 have x9:=hx 9 48 rfl
 have H1:=Hd h1
 have n3:b≠w.heap.size:=by omega
 have n4:b≠w.heap.size+1:=by omega
 unfold Zr1 at kR
 clear HM H0 hr1 hb1 h1 hx
 go_wp2_with fail
 refine wp_loop_rounds 4 ?_
 rw[rounds_succ]
 go_wp2_with fail
 go_region
 go_wp2_with fail
 obtain⟨w2,hw⟩:=exl (((w1.setCell ⟨w.heap.size,0,none⟩ (.int .i64 2)).setCell ⟨w.heap.size+1,1,none⟩ (.int .i64 8)).drew)
 have h2:=((H1.out.set_ (i:=1) rfl 0 (.int .i64 2)).set_ (i:=0) rfl 1 (.int .i64 8)).drew
 rw[hw]at h2⊢
 change Sep w2 (Zaa (w.heap.size+1) 77 (Zr1 b o c ((8:Nat):Int))::Zaa w.heap.size 69 #[.int .i64 2,.slice none 0 0,.slice none 0 0]::F)at h2
 clear kR kG x7 x8 x9 hw H1
 have kR:=h2.at_ (i:=0) rfl
 have kG:=h2.at_ (i:=1) rfl
 have hx:=Zeb (hR _ h2.tail.tail) (by decide)
 have x7:=hx 7 50 rfl
 have x8:=hx 8 48 rfl
 have x9:=hx 9 48 rfl
 have H2:=Hd h2
 unfold Zr1 at kR
 clear h2 hx
 rw[rounds_succ]
 go_wp2_with fail
 go_region
 go_wp2_with fail
 obtain⟨w3,hw⟩:=exl (((w2.setCell ⟨w.heap.size,0,none⟩ (.int .i64 20)).setCell ⟨w.heap.size+1,1,none⟩ (.int .i64 9)).drew)
 have h3:=((H2.out.set_ (i:=1) rfl 0 (.int .i64 20)).set_ (i:=0) rfl 1 (.int .i64 9)).drew
 rw[hw]at h3⊢
 change Sep w3 (Zaa (w.heap.size+1) 77 (Zr1 b o c ((9:Nat):Int))::Zaa w.heap.size 69 #[.int .i64 20,.slice none 0 0,.slice none 0 0]::F)at h3
 clear kR kG x7 x8 x9 hw H2
 have kR:=h3.at_ (i:=0) rfl
 have kG:=h3.at_ (i:=1) rfl
 have hx:=Zeb (hR _ h3.tail.tail) (by decide)
 have x7:=hx 7 50 rfl
 have x8:=hx 8 48 rfl
 have x9:=hx 9 48 rfl
 have H3:=Hd h3
 unfold Zr1 at kR
 clear h3 hx
 rw[rounds_succ]
 go_wp2_with fail
 go_region
 go_wp2_with fail
 obtain⟨w4,hw⟩:=exl (((w3.setCell ⟨w.heap.size,0,none⟩ (.int .i64 200)).setCell ⟨w.heap.size+1,1,none⟩ (.int .i64 10)).drew)
 have h4:=((H3.out.set_ (i:=1) rfl 0 (.int .i64 200)).set_ (i:=0) rfl 1 (.int .i64 10)).drew
 rw[hw]at h4⊢
 change Sep w4 (Zaa (w.heap.size+1) 77 (Zr1 b o c ((10:Nat):Int))::Zaa w.heap.size 69 #[.int .i64 200,.slice none 0 0,.slice none 0 0]::F)at h4
 clear kR kG x7 x8 x9 hw H3
 have kR:=h4.at_ (i:=0) rfl
 have kG:=h4.at_ (i:=1) rfl
 have hx:=Zeb (hR _ h4.tail.tail) (by decide)
 have x7:=hx 7 50 rfl
 have x8:=hx 8 48 rfl
 have x9:=hx 9 48 rfl
 have H4:=Hd h4
 unfold Zr1 at kR
 clear h4 hx
 have r4:=Zns 10 H4.out (iR:=0) rfl (hR _ H4.out.tail.tail) hc (by omega) (by decide)
 have HM:=Hd (Zcb (s:=[13,10]) (rest:=Zku.drop 12) r4)
 clear r4 x7 x8 x9
 rw[rounds_succ]
 go_wp2_with fail
 refine Mo HM ?_
 rintro e w5 ⟨rfl,hr5,hb5⟩
 have h5:=Zge 12 H4.out (iR:=0) rfl hr5 hb5 rfl
 have r5:=Zns 12 h5 (iR:=0) rfl (hR _ h5.tail.tail) hc (by omega) (by decide)
 have HH:=Hd (Zwp (rest:=Zln) r5)
 have H5:=Hd h5
 clear kR kG HM H4 hr5 hb5 h5 r5
 go_wp2_with fail
 refine Mo HH ?_
 rintro e w6 ⟨rfl,hr6,hb6⟩
 have h6:=Zge 31 H5.out (iR:=0) rfl hr6 hb6 rfl
 have kR:=h6.at_ (i:=0) rfl
 have kG:=h6.at_ (i:=1) rfl
 have H6:=Hd h6
 have hc31:¬c=31:=by omega
 unfold Zr1 at kR
 clear HH H5 hr6 hb6 h6
 go_wp2_with fail
 have h7:=H6.out.set_ (i:=1) rfl 1 (.slice none 0 0)
 refine(show Calls _ _ _ _ _ from Z1e h7 (fun W hW=>(Zi1 (n:=45) 31 (hR W hW.tail.tail) hc (m:=Zln) rfl (by decide)).1) (by omega)).mono ?_
 rintro e w7 ⟨A,c',rfl,h8⟩
 have kR:=h8.at_ (i:=1) rfl
 have kG:=h8.at_ (i:=2) rfl
 have H8:=Hd h8
 unfold Zr1 at kR
 clear H6 h7 h8
 go_wp2_with fail
 have h9:=((H8.out.set_ (i:=2) rfl 2 (.slice A 4 c')).set_ (i:=1) rfl 2 .nilIface).set_ (i:=1) rfl 1 (.int .i64 45)
 refine(show Calls _ _ _ _ _ from Zom (Zns 45 h9 (iR:=1) rfl (hR _ h9.tail.tail.tail) hc (by omega) (by decide)).rd).mono ?_
 rintro e w10 ⟨rfl,rfl⟩
 go_wp2_with fail
 obtain⟨w11,hw⟩:=exl (((w7.setCell ⟨w.heap.size,2,none⟩ (.slice A 4 c')).setCell ⟨w.heap.size+1,2,none⟩ .nilIface).setCell ⟨w.heap.size+1,1,none⟩ (.int .i64 45))
 rw[hw]at h9⊢
 change Sep w11 (_::Zaa (w.heap.size+1) 77 (Zr1 b o c 45)::Zaa w.heap.size 69 #[.int .i64 200,.slice none 0 0,.slice A 4 c']::F)at h9
 clear kR kG hw H8
 have kR:=h9.at_ (i:=1) rfl
 have kG:=h9.at_ (i:=2) rfl
 have H9:=Hd h9
 unfold Zr1 at kR
 clear h9
 go_region
 all_goals
  go_wp2
  have hz:=(((H9.out.set_ (i:=2) rfl 0 (.int .i64 200)).set_ (i:=2) rfl 1 (.slice none 0 0)).set_ (i:=2) rfl 2 (.slice A 4 c')).drew
  refine bodyPost_ret (Za6 rfl _ _ w.heap.size _ _ _ rfl (hz.blk (i:=2) rfl) underlying69 rfl Zia) rfl ?_
  exact⟨A,c',rfl,(hz.drop_ 1).drop_ 1⟩
end
end Go.Proofs.YtbgnggkgmeagkaaGreatDoor
