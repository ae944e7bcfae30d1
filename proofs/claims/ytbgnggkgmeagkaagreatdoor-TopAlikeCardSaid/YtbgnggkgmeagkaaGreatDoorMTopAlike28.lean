/-
  A part of the proof of TopAlike: each theorem states its own conditions.
-/
import Derived.Test.YtbgnggkgmeagkaaGreatDoorMTopAlike27
set_option linter.unusedSimpArgs false
set_option linter.unusedVariables false
set_option maxRecDepth 100000
set_option maxHeartbeats 16000000
namespace Go.Proofs.YtbgnggkgmeagkaaGreatDoor
open Go.Proofs.Tryz
section
open Go.RowKit Go.Shelf
def Zpt :List UInt8:=[80,79,83,84]
def pL :List UInt8:=[47,112]
def hL :List UInt8:=[104]
def blkL :List UInt8:=[130,67,2,47,112,68,1,104]
theorem Zvd :Za0 4096 [] (Zc3 Zpt pL hL [])=blkL/\Ze7 (Zc3 Zpt pL hL [])=0:=⟨by kernel_rfl,by kernel_rfl⟩
theorem ask_ok :∀f∈Zc3 Zpt pL hL [],fOk f:=by
 intro f hf
 simp only[Zc3,Zjy,List.mem_cons,List.flatMap_nil,List.not_mem_nil,or_false]at hf
 rcases hf with rfl | rfl | rfl <;>(constructor <;> decide)
theorem Zq3 {w:World}{L:List Zae}{i:Nat}{ad:Addr}{BA:Option Addr}(h:Sep w L)(hi:L[i]? =some (Zir ad [120]))(e:BA=some ad):Zab w w.heap.size 1 BA 1 (bs [120]):=by
 subst e
 exact h.byt hi
def askF :Frm:=⟨1,4,1,blkL⟩
def askB :List UInt8:=[0,0,8,1,4,0,0,0,1,130,67,2,47,112,68,1,104]
theorem Z1s :Zeq askF=0/\Zbh askF=askB:=by decide
theorem cl_ask {w:World}{F:List Zae}{kb C M g h n c ib bc:Nat}{A BA:Option Addr}{xs:List UInt8}(hn:n<=1000)(hM:Zxh w){ad:Addr}(hBA:BA=some ad)(hib:F[ib]? =some (Zir ad [120]))
  (H0:Sep w (Zaa kb 126 (Zau C M (.slice none 0 0) (.slice none 0 0) (.slice A n c) 2000 (-1) (.slice none 0 0) 0 false)::Zad 5 1 (.slice A n c) n (bs xs)::Zak M #[] 0::Zaa C 93 (Zai g h)::Zbw g none 0 [] 4096::Zbw h none 0 [] 4096::F)):
  CA 15 #[.pointer (some ⟨kb,0,none⟩),.agg (Zcf Zpt pL hL none 0 0 BA 1 bc)] w fun e w'=>e=.returned (.tuple #[.int .i64 1,.nilIface])/\∃A' c' OA oc X Q',Sep w' (Zaa kb 126 (Zau C M (.slice OA 0 oc) (.slice none 0 0) (.slice A' (n+27) c') 1999 1 (.slice none 0 0) 0 false)::Zad 5 1 (.slice A' (n+27) c') (n+27) (bs (xs++[0,0,8,1,4,0,0,0,1,130,67,2,47,112,68,1,104,0,0,1,0,1,0,0,0,1,120]))::
   Zad 3 1 (.slice OA 0 oc) 0 []::Zak M (Zaw (.pointer (some ⟨X,0,none⟩))) 1::Zaa X 130 (Zay 1999 Q' false (.slice none 0 0) false (.slice none 0 0) false)::Zaa C 93 (Zai g h)::Zbw h none 0 [] 4096::F):=by
 have HBA:=Hd hBA
 clear hBA
 have h1:=H0.newBlk 25 (Zcf Zpt pL hL none 0 0 BA 1 bc)
 have kX:=h1.at_ (i:=0) rfl
 have kK:=h1.at_ (i:=1) rfl
 have hM1:=hM.next ((Below.refl w.heap.size w).alloc (Nat.le_refl _) (.cells (Zcf Zpt pL hL none 0 0 BA 1 bc) 25))
 have H1:=Hd h1
 have HM:=Hd hM1
 unfold Zau at kK
 unfold Zcf at kX
 clear h1 H0 hM hM1
 go_enter func15,ntmps15
 unfold Zcf
 go_wp2_with fail
 refine(Zoj Zpt pL hL [] 1 (by decide) none 0 0 rfl BA bc _ HM.out Zab.none_).mono ?_
 rintro e w1 ⟨LA,lc,rfl,hown,hb⟩
 have h2:=(H1.out.newRow hb hown)
 have kX:=h2.at_ (i:=1) rfl
 have kK:=h2.at_ (i:=2) rfl
 have H2:=Hd h2
 unfold Zau at kK
 unfold Zcf at kX
 clear h2 hown hb HM
 go_wp2_with (go_at_call 56;refine(cl_open H2.out (i:=2) rfl).mono ?_;rintro e w' ⟨rfl,rfl⟩)
 refine(Zmp ((H2.out.front 6 rfl).front 6 rfl) (Zc3 Zpt pL hL []) ask_ok (by decide) Zvd.2 LA _ lc 0 rfl rfl).mono ?_
 rintro e w2 ⟨PA,n2,pc,rfl,rfl,h3⟩
 rw[Zvd.1]at h3⊢
 have hX:=(h3.at_ (i:=3) rfl)
 have kK:=h3.at_ (i:=4) rfl
 have H3:=Hd h3
 clear kX h3 H2
 have kX:=hX
 unfold Zau at kK
 unfold Zcf at kX
 clear hX
 go_wp2_with fail
 obtain⟨w5,hw5⟩:=exl (w2.setCell ⟨kb,7,none⟩ (.int .i64 1))
 have h5:=H3.out.set_ (i:=4) rfl 7 (.int .i64 1)
 rw[hw5]at h5⊢
 change Sep w5 (_::_::_::Zaa _ _ _::Zaa kb _ (Zau C M (.slice none 0 0) (.slice none 0 0) (.slice A n c) 2000 1 (.slice none 0 0) 0 false)::_)at h5
 clear kX kK H3 hw5
 have kX:=h5.at_ (i:=3) rfl
 have kK:=h5.at_ (i:=4) rfl
 have HR:=Hd (Zq3 h5 (i:=ib+8) hib HBA.out)
 have H5:=Hd h5.drew
 unfold Zau at kK
 unfold Zcf at kX
 clear h5
 go_region_held3 (fun w'=>w'.cell? ⟨kb,6,none⟩=some (.int .i64 2000)/\w'.cell? ⟨w.heap.size,4,none⟩=some (.slice BA 1 bc))
  (first | exact⟨kK.1 6,kX.1 4⟩ | exact⟨kK6.1 6,kX6.1 4⟩ | exact⟨kK7.1 6,kX7.1 4⟩ | go_keep)
  (first
  | (go_at_call 54;refine(Zs3 _).mono ?_;rintro e w6 ⟨rfl,hb6⟩;have h6:=H5.out.below hb6;have kX6:=h6.at_ (i:=3) rfl;have kK6:=h6.at_ (i:=4) rfl;have HR6:=Hd (Zq3 h6 (i:=ib+8) hib HBA.out);have H6:=Hd h6;unfold Zau at kK6;unfold Zcf at kX6;clear h6 hb6)
  | (go_at_call 46;refine(Zcd BA [120] 1 bc rfl (fun e=>by rw[HBA.out]at e;cases e) (by decide) _ HR6.out).mono ?_;rintro e w7 ⟨QA,qc,rfl,hown7,hb7⟩;have h7:=H6.out.below hb7;have kX7:=h7.at_ (i:=3) rfl;have kK7:=h7.at_ (i:=4) rfl;have H7:=Hd (H6.out.newRow hb7 hown7);unfold Zau at kK7;unfold Zcf at kX7;clear h7 hb7 hown7))
 have h8:=H7.out.newBlk 130 (Zay 2000 (.slice QA 1 qc) true (.slice none 0 0) false (.slice none 0 0) false)
 obtain⟨W8,hW8⟩:=exl (w7.alloc (.cells (Zay 2000 (.slice QA 1 qc) true (.slice none 0 0) false (.slice none 0 0) false) 130))
 rw[hW8]at h8
 have hs8:w7.heap.size < W8.heap.size:=by rw[<-hW8];simp
 have kX:=h8.at_ (i:=5) rfl
 have kK:=h8.at_ (i:=6) rfl
 have qm:(Instr.mapUpdate 121 (.map (some M)) (.int .i64 1) (.pointer (some ⟨w7.heap.size,0,none⟩))).run prog W8=.ok () (putM W8 M (Zaw (.pointer (some ⟨w7.heap.size,0,none⟩))) 1):=Za9 (P:=prog) (t:=121) (k:=.int .i64 1) underlying121 underlying3 rfl (h8.map_ (i:=8) rfl) (by rfl) (.pointer (some ⟨w7.heap.size,0,none⟩))
 have h9:=h8.putMap (i:=8) rfl (es':=Zaw (.pointer (some ⟨w7.heap.size,0,none⟩))) (c':=1)
 have H9:=Hd h9
 unfold Zau at kK
 unfold Zcf at kX
 unfold Zay at hW8
 clear h8 h9
 go_upto_region 15 with fail
 obtain⟨w9,hw9⟩:=exl (putM W8 M (Zaw (.pointer (some ⟨w7.heap.size,0,none⟩))) 1)
 have h9:=H9.out
 rw[hw9]at h9⊢
 clear kX kK qm H9 hw9 hW8
 obtain⟨X,hX⟩:=exl (w7.heap.size)
 rw[hX]at h9⊢
 have kC:=h9.at_ (i:=0) rfl
 have hcap:=h9.cap (i:=2) rfl
 have HS:=Hd (Zko 1 blkL PA blkL.length pc rfl (by decide) (by decide) hcap false w9 (Zag h9 (i:=2) rfl))
 have H9:=Hd h9
 unfold Zay at kC
 clear h9 hX hs8
 go_wp2_with fail
 refine Mo HS ?_
 rintro e w10 ⟨gg,c3,A3,ac,rfl,hb3,⟨q0,q1,q2,q3⟩,hr3⟩
 simp only[Bool.false_eq_true,if_false,Int.zero_add]at q1
 have h3:=H9.out.below hb3
 have HR3:=Hd hr3
 have hgl:=World.block_lt_of_cell? w10 _ q0
 have H3:=Hd h3
 clear h3 hr3 H9 HS hb3 hcap kC
 go_wp2
 refine wp_loop_rounds 2 ?_
 rw[rounds_succ]
 go_wp2_with fail
 have h4:=H3.out.newBlk 134 #[.int .i64 1,.int .i64 4,.int .i64 1,.slice A3 blkL.length ac]
 have hba:=(Below.refl w10.heap.size w10).alloc (Nat.le_refl _) (.cells #[.int .i64 1,.int .i64 4,.int .i64 1,.slice A3 blkL.length ac] 134)
 have HR4:=Hd ((HR3.out.below hba).more hba.size)
 have H4:=Hd ((h4.front 8 rfl).front 8 rfl)
 clear h4 hba HR3 H3 q0 q1 q2 q3 hgl
 refine(csay askF Z1s.1 A3 ac HR4.out kb (xs:=xs) (by omega) H4.out).mono ?_
 rintro e w11 ⟨rfl,A5,c5,h5⟩
 rw[Z1s.2]at h5
 have kX:=h5.at_ (i:=3) rfl
 have kK:=h5.at_ (i:=0) rfl
 have h6:=(h5.nilRow 3 1).newBlk 3 #[.int .i64 1]
 have H6:=Hd h6
 unfold Zay at kX
 clear h5 h6 H4 HR4
 go_wp2
 rw[rounds_succ]
 go_wp2_with (at_builtin;refine Zck rfl _ _ 58 3 rfl underlying58 Zg0 rfl (by decide) (by decide) _ 0 [] H6.out (i:=1) rfl rfl _ _ (j:=0) rfl rfl (by intro u hu;simp at hu;subst hu;rfl) rfl (by decide) ?_;intro A7 c7 w7 h7 _;have kK7:=h7.at_ (i:=2) rfl;have H7:=Hd h7;clear h7)
 have h8:=H7.out.set_ (i:=2) rfl 2 (.slice A7 1 c7)
 change Sep _ (_::Zad _ 1 (.slice A7 1 c7) 1 [.int .i64 1]::Zaa kb _ (Zau C M (.slice A7 1 c7) (.slice none 0 0) (.slice A5 (n+17) c5) 2000 1 (.slice none 0 0) 0 false)::_)at h8
 have h10:=((((((h8.front 6 rfl).front 6 rfl).front 11 rfl).front 4 rfl).front 6 rfl).front 6 rfl)
 have HC:=Hd (cp_one (by omega) h10)
 clear kX kK kK7 H6 H7 h8 h10
 refine Mo HC ?_
 rintro e w12 ⟨rfl,A9,c9,Q9,h12⟩
 rw[List.append_assoc]at h12
 have H12:=Hd ((((((h12.drop_ 5).drop_ 5).drop_ 5).drop_ 5).drop_ 6).drop_ 6)
 clear h12 HC
 go_wp2
 go_ret2
 exact⟨rfl,A9,c9,A7,c7,X,Q9,H12.out⟩
def Ztm (id:Int)(blk b:List UInt8):List UInt8:=hdL id blk (decide (b.length=0)) (hdM blk)++(if b.length=0 then []else Zbh ⟨0,1,id,b⟩)
theorem Zuf {w w0:World}{L:List Zae}{io size n:Nat}{A:Option Addr}{xs:List Value}(h:Sep w L)(hio:L[io]? =some (Zel w0))(hr:Zab w0 w0.heap.size size A n xs):Zab w w.heap.size size A n xs:=
 (hr.below (h.old hio)).more (h.old hio).size
theorem vk_put {w:World}{L:List Zae}{M X j:Nat}{cl:List (Int×Value)}{id:Int}(h:Sep w L)(hj:L[j]? =some (Zan Zat M cl))(hv:Za8 cl id=none):∃es c,(Instr.mapUpdate 121 (.map (some M)) (.int .i64 id) (.pointer (some ⟨X,0,none⟩))).run prog w=.ok () (putM w M es c)/\Hid (Sep (putM w M es c) (L.set j (Zan Zat M (cl++[(id,ptr X)])))):=by
 obtain⟨es,c,h1,h2⟩:=h.updN (P:=prog) Zja hj underlying121 underlying3 hv (ptr X)
 exact⟨es,c,h1,Hd h2⟩
theorem frm_data (k:Nat)(hk:k < 1000)(b:List UInt8)(hb:b.length<=1024):Zeq ⟨0,1,sid k,b⟩=0:=by
 have h2:Zmd ⟨0,1,sid k,b⟩:=by
  unfold Zmd sid
  refine⟨?_,?_,?_,?_,?_,?_⟩
  all_goals simp only
  all_goals omega
 unfold Zeq
 rw[if_pos h2,if_neg (by show¬1024 < b.length;omega)]
theorem j_facts {j m:Nat}(h:j < m)(hm:m<=3):(j:Int) < (m:Int)/\(∃jn:Int,((j+1:Nat):Int)=jn/\(j:Int)+1=jn/\wrap64 jn=jn)/\¬(j:Int) < 0:=by
 refine⟨by omega,⟨_,rfl,by omega,?_⟩,by omega⟩
 unfold wrap64
 omega
theorem j_meas {g j m:Nat}(h:g+j=m)(hl:j < m):g-1+(j+1)=m/\g-1 < g:=by omega
theorem j_end {g j m:Nat}(h:g+j=m)(hl:¬j < m):j=m:=by omega
theorem fin_not {wt:Bool}{bn:Nat}{b:List UInt8}(h:decide (0 < bn)=wt)(hb:bn=b.length):(!wt)=decide (b.length=0):=by
 rw[<-h]
 by_cases h0:0 < bn
 ·have h1:¬b.length=0:=by omega
  simp[h0,h1]
 ·have h1:b.length=0:=by omega
  simp[h0,h1]
theorem vk_ask {w w0:World}{F Xs:List Zae}{io kb C M g hh n c oc tc k fn fc bn bc ow:Nat}{A OA TA FA BA:Option Addr}{mt pt ht xs b blk:List UInt8}{fs tx l:List Fld}{cl:List (Int×Value)}(hM:Zxh w0)(hio:F[io]? =some (Zel w0))(hk:k < 8)(hn:n<=60000)
  (hE:Zf8 mt pt ht fs bn=0) (hfn:fn=fs.length) (hbn:bn=b.length) (hb:bn<=900) (how:bn<=ow) (how2:ow<=2000) (hrf:Zab w0 w0.heap.size 2 FA fn (fvs fs)) (hrb:Zab w0 w0.heap.size 1 BA bn (bs b)) (hBA:BA=none->bc=0)
  (hl:Zc3 mt pt ht fs=l) (hf:∀f∈l,fOk f) (hll:l.length<=100000) (hS:Ze7 l=0) (hblk:Za0 4096 tx l=blk) (hbk:blk.length<=3000)
  (hcn:Za8 cl (sid k)=none) (hc:∀j,j < k->∃X,Za8 cl (sid j)=some (ptr X)/\calX X∈Xs)
  (h:Sep w (Zaa kb 126 (Zau C M (.slice OA 0 oc) (.slice none 0 0) (.slice A n c) ow (sid k-2) (.slice none 0 0) 0 false)::Zad 5 1 (.slice A n c) n (bs xs)::Zad 3 1 (.slice OA 0 oc) 0 []::Zan Zat M cl::Zff Xs::Zaa C 93 (Zai g hh)::Zbw g TA tc tx 4096::F)):
  CA 15 #[.pointer (some ⟨kb,0,none⟩),.agg (Zcf mt pt ht FA fn fc BA bn bc)] w fun e w'=>(∃v,e=.returned v)/\∃A' c' OA' oc' TA' tc' X,Sep w' (Zaa kb 126 (Zau C M (.slice OA' 0 oc') (.slice none 0 0) (.slice A' (n+(Ztm (sid k) blk b).length) c') ((ow-bn:Nat):Int) (sid k) (.slice none 0 0) 0 false)::Zad 5 1 (.slice A' (n+(Ztm (sid k) blk b).length) c') (n+(Ztm (sid k) blk b).length) (bs (xs++Ztm (sid k) blk b))::
   Zad 3 1 (.slice OA' 0 oc') 0 []::Zan Zat M (cl++[(sid k,ptr X)])::Zff (calX X::Xs)::Zaa C 93 (Zai g hh)::Zbw g TA' tc' (Zcs 4096 tx l) 4096::F):=by
 have h1:=h.newBlk 25 (Zcf mt pt ht FA fn fc BA bn bc)
 have kX:=h1.at_ (i:=0) rfl
 have kK:=h1.at_ (i:=1) rfl
 have hM1:=hM.next (h1.old (i:=io+8) hio)
 have HRF:=Hd (fun(w1:World) L1 (i1:Nat) (q:Sep w1 L1) (qi:L1[i1]? =some (Zel w0))=>And.intro (Zuf q qi hrf) (Zuf q qi hrb))
 have hr1:=(HRF.out _ _ (io+8) h1 hio).1
 have HFL:=Hd (Zoj mt pt ht fs bn hE FA fn fc hfn BA bc _ hM1 (by rw[<-hfn];exact hr1))
 have HCL:=Hd (fun(w6:World) (hr6:Zab w6 w6.heap.size 1 BA bn (bs b))=>(show CA 46 #[.slice BA bn bc] w6 fun e w'=>∃A' c',e=.returned (.slice A' bn c')/\w'.ownsRow w6.heap.size 5 1 (.slice A' bn c') bn (bs b)/\Below w6.heap.size w6 w' from by
  have q:=Zcd BA b bn bc hbn hBA (by omega) w6 (by rw[<-hbn];exact hr6)
  rw[<-hbn]at q
  exact q))
 obtain⟨wt,hwt⟩:=exl (decide ((0:Int) < (bn:Int)))
 have hwt2:decide (0 < bn)=wt:=by rw[<-hwt];congr 1;simp
 rw[hl]at HFL
 have HOP:=Hd (fun(w1:World) L1 (q:Sep w1 L1) (i1 im ia:Nat) (q1:L1[i1]? =some (Zaa kb 126 (Zau C M (.slice OA 0 oc) (.slice none 0 0) (.slice A n c) ow (sid k-2) (.slice none 0 0) 0 false))) (qm:L1[im]? =some (Zan Zat M cl)) (qa:L1[ia]? =some (Zff Xs))=>Zxv q q1 qm qa hc (by omega) rfl)
 have H1:=Hd h1
 have e1:sid k-2+2=sid k:=by omega
 have e2:wrap64 (sid k)=sid k:=by unfold wrap64 sid;omega
 obtain⟨la,hla⟩:∃q,sid k-2=q:=⟨_,rfl⟩
 obtain⟨id,hid⟩:∃q,sid k=q:=⟨_,rfl⟩
 have HID:=Hd hid
 rw[hla]at e1 HOP kK H1
 rw[hid]at e1 e2 hcn⊢
 have HCN:=Hd hcn
 have HK:=Hd (And.intro hk (And.intro hn (And.intro hbn (And.intro hb (And.intro how (And.intro how2 (And.intro hBA hbk)))))))
 have HS:=Hd (And.intro hf (And.intro hll (And.intro hS hblk)))
 have HIO:=Hd hio
 unfold Zau at kK
 unfold Zcf at kX
 clear h h1 hM hM1 hio hk hn hE hfn hbn hb how how2 hrf hrb hBA hl hf hll hS hblk hbk hcn hc hr1 hla hid
 go_enter func15,ntmps15
 unfold Zcf
 go_wp2_with fail
 refine Mo HFL ?_
 rintro e w1 ⟨LA,lc,rfl,hown,hb⟩
 have h2:=H1.out.newRow hb hown
 have kX:=h2.at_ (i:=1) rfl
 have kK:=h2.at_ (i:=2) rfl
 have H2:=Hd h2
 have HOO:=Hd (HOP.out _ _ h2 2 5 6 rfl rfl rfl)
 unfold Zau at kK
 unfold Zcf at kX
 clear h2 hown hb HOP H1 HFL
 go_wp2_with fail
 refine Mo HOO ?_
 rintro e w2 ⟨A2,n2,c2,rfl,hn2,h3⟩
 have i1:¬(16:Int)<=(n2:Int):=by have:=HK.out;omega
 have h4:=Sep.ordN h3 9 [7,8,0,1,2,3,4,5,6] rfl (by decide)
 simp only[Zbo,Zbd,Zam,erS,erZ]at h4
 have HEN:=Hd (Zyk h4 l HS.out.1 (by have:=HS.out.2.1;omega) HS.out.2.2.1 LA l.length lc 0 rfl rfl)
 rw[HS.out.2.2.2]at HEN
 have kK2:=h4.at_ (i:=4) rfl
 unfold Zau at kK2
 clear h3 h4 H2 HOO hn2 kK kX
 go_wp2_with fail
 refine Mo HEN ?_
 rintro e w3 ⟨PA,n3,pc,rfl,rfl,TA3,tc3,h5⟩
 have kX:=h5.at_ (i:=4) rfl
 have kK:=h5.at_ (i:=5) rfl
 have H5:=Hd h5
 unfold Zau at kK
 unfold Zcf at kX
 clear kK2 h5 HEN i1
 go_wp2_with fail
 obtain⟨w5,hw5⟩:=exl (w3.setCell ⟨kb,7,none⟩ (.int .i64 id))
 have h5:=H5.out.set_ (i:=5) rfl 7 (.int .i64 id)
 rw[hw5]at h5⊢
 change Sep w5 (_::_::_::_::Zaa _ _ _::Zaa kb _ (Zau C M (.slice OA 0 oc) (.slice none 0 0) (.slice A n c) ow id (.slice none 0 0) 0 false)::_)at h5
 clear kX kK H5 hw5
 have kX:=h5.at_ (i:=4) rfl
 have kK:=h5.at_ (i:=5) rfl
 have H5:=Hd h5.drew
 unfold Zau at kK
 unfold Zcf at kX
 clear h5
 go_region_held3 (fun w'=>w'.cell? ⟨kb,6,none⟩=some (.int .i64 2000)/\w'.cell? ⟨w.heap.size,4,none⟩=some (.slice BA bn bc))
  (first | exact⟨kK.1 6,kX.1 4⟩ | exact⟨kK6.1 6,kX6.1 4⟩ | exact⟨kK7.1 6,kX7.1 4⟩ | go_keep)
  (first
  | (go_at_call 54;refine(Zs3 _).mono ?_;rintro e w6 ⟨rfl,hb6⟩;have h6:=H5.out.below hb6;have kX6:=h6.at_ (i:=4) rfl;have kK6:=h6.at_ (i:=5) rfl;have HR6:=Hd (HRF.out _ _ (io+10) h6 HIO.out).2;have H6:=Hd h6;unfold Zau at kK6;unfold Zcf at kX6;clear h6 hb6)
  | (go_at_call 46;refine(HCL.out _ HR6.out).mono ?_;rintro e w7 ⟨QA,qc,rfl,hown7,hb7⟩;have h7:=H6.out.below hb7;have kX7:=h7.at_ (i:=4) rfl;have kK7:=h7.at_ (i:=5) rfl;have H7:=Hd (H6.out.newRow hb7 hown7);unfold Zau at kK7;unfold Zcf at kX7;clear h7 hb7 hown7))
 have h8:=H7.out.newBlk 130 (Zay 2000 (.slice QA bn qc) wt (.slice none 0 0) false (.slice none 0 0) false)
 obtain⟨W8,hW8⟩:=exl (w7.alloc (.cells (Zay 2000 (.slice QA bn qc) wt (.slice none 0 0) false (.slice none 0 0) false) 130))
 rw[hW8]at h8
 have kX:=h8.at_ (i:=6) rfl
 have kK:=h8.at_ (i:=7) rfl
 obtain⟨es,cm,qm,H9⟩:=vk_put (X:=w7.heap.size) h8 (j:=10) rfl HCN.out
 unfold Zau at kK
 unfold Zcf at kX
 unfold Zay at hW8
 clear h8 kX6 kK6 kX7 kK7 H5 H6 H7 HR6
 go_upto_region 15 with fail
 obtain⟨w9,hw9⟩:=exl (putM W8 M es cm)
 have h9:=H9.out
 rw[hw9]at h9⊢
 simp only[List.set_cons_succ,List.set_cons_zero]at h9
 clear kX kK qm H9 hw9 hW8
 obtain⟨X,hX⟩:=exl (w7.heap.size)
 rw[hX]at h9⊢
 have kC:=h9.at_ (i:=0) rfl
 have hcap:=h9.cap (i:=2) rfl
 have HSP:=Hd (Zph id blk PA blk.length pc rfl (by have:=HK.out;omega) hcap (!wt) w9 (Zag h9 (i:=2) rfl))
 have H9:=Hd h9
 unfold Zay at kC
 clear h9 hX hcap
 go_wp2_with fail
 refine Mo HSP ?_
 rintro e w10 ⟨A3,m3,c3,rfl,hm3,hb3,g3,rfl,hg3,hs3⟩
 have h10:=Sep.ordN (H9.out.newSnap hb3) 13 [8,9,0,1,2,3,4,5,6,7,10,11,12] rfl (by decide)
 simp only[Zbo,Zbd,Zam,erS,erZ]at h10
 change m3=hdM blk at hm3
 have HS3:=Hd hs3
 have HM3:=Hd hm3
 have H10:=Hd h10
 have hm4:m3<=3:=by have:=HK.out;rw[hm3];unfold hdM Zaq;omega
 have HM4:=Hd hm4
 clear h10 hb3 hg3 hs3 hm3 H9 HSP kC hm4
 go_wp2
 obtain⟨Lr,hLr⟩:∃Lr:List Zae,(Zaa X 130 (Zay 2000 (.slice QA bn qc) wt (.slice none 0 0) false (.slice none 0 0) false)::Zad 5 1 (.slice QA bn qc) bn (bs b)::Zad 5 1 (.slice PA blk.length pc) blk.length (bs blk)::Zaa C 93 (Zai g hh)::Zbw g TA3 tc3 (Zcs 4096 tx l) 4096::Zad 41 2 (.slice LA l.length lc) l.length (fvs l)::
  Zaa w.heap.size 25 (Zcf mt pt ht FA fn fc BA bn bc)::Zad 3 1 (.slice OA 0 oc) 0 []::Zan Zat M (cl++[(id,ptr X)])::Zff Xs::F)=Lr:=⟨_,rfl⟩
 have h10:=H10.out
 rw[hLr]at h10
 have HLr:=Hd hLr
 have HO:=Hd (show∃(A':Option Addr) (c':Nat),Sep w10 (Zaa kb 126 (Zau C M (.slice OA 0 oc) (.slice none 0 0) (.slice A' (n+(hdL id blk (!wt) 0).length) c') ow id (.slice none 0 0) 0 false)::Zad 5 1 (.slice A' (n+(hdL id blk (!wt) 0).length) c') (n+(hdL id blk (!wt) 0).length) (bs (xs++hdL id blk (!wt) 0))::Zvp w9.heap.size w10::Lr)from⟨A,c,by
  have e:hdL id blk (!wt) 0=[]:=rfl
  rw[e,List.append_nil]
  exact h10⟩)
 clear h10 H10 hLr
 go_loopg [89] m3 (fun mm i wr=>∃j:Nat,mm+j=m3/\i=.int .i64 (j:Int)/\Hid (∃(A':Option Addr) (c':Nat),Sep wr (Zaa kb 126 (Zau C M (.slice OA 0 oc) (.slice none 0 0) (.slice A' (n+(hdL id blk (!wt) j).length) c') ow id (.slice none 0 0) 0 false)::Zad 5 1 (.slice A' (n+(hdL id blk (!wt) j).length) c') (n+(hdL id blk (!wt) j).length) (bs (xs++hdL id blk (!wt) j))::Zvp w9.heap.size w10::Lr)))
 case atStart=>exact⟨0,by omega,rfl,HO⟩
 case round=>
  obtain⟨j,hj,rfl,HR⟩:=hrel
  obtain⟨A4,c4,h11⟩:=HR.out
  clear HO HR
  by_cases hlt:j < m3
  ·obtain⟨A5,c5,q0,q1,q2,q3,q4,-,q5,q6⟩:=HS3.out j hlt
   have hfo:=Zz5 k (by have:=HK.out;omega) blk (!wt) m3 j
   rw[HID.out]at hfo
   have hnx:=Zii id blk (!wt) j
   rw[<-HM3.out]at hnx
   have hfS:(hdF id blk (!wt) m3 j).S=id:=rfl
   obtain⟨f,hf⟩:=exl (hdF id blk (!wt) m3 j)
   have p0:w10.cell? ⟨g3,4*j,none⟩=some (.int .i64 f.K):=by rw[q0,<-hf];rfl
   have p1:w10.cell? ⟨g3,4*j+1,none⟩=some (.int .i64 f.F):=by rw[q1,<-hf];rfl
   have p2:w10.cell? ⟨g3,4*j+2,none⟩=some (.int .i64 id):=q2
   have p3:w10.cell? ⟨g3,4*j+3,none⟩=some (.slice A5 f.body.length c5):=by rw[q3,<-hf];rfl
   have p4:Zab w10 w10.heap.size 1 A5 f.body.length (bs f.body):=by rw[<-hf];exact q4
   rw[hf]at hfo hnx hfS
   have r0:=Zgd h11 (i:=2) rfl q5 p0
   have r1:=Zgd h11 (i:=2) rfl q5 p1
   have r2:=Zgd h11 (i:=2) rfl q5 p2
   have r3:=Zgd h11 (i:=2) rfl q5 p3
   rw[Nat.mul_comm 4 j]at r0 r1 r2 r3
   have r4:=Zvo h11 (i:=2) rfl p4 q6
   have h12:=h11.newBlk 134 #[.int .i64 f.K,.int .i64 f.F,.int .i64 id,.slice A5 f.body.length c5]
   have hba:=(Below.refl wr.heap.size wr).alloc (Nat.le_refl _) (.cells #[.int .i64 f.K,.int .i64 f.F,.int .i64 id,.slice A5 f.body.length c5] 134)
   have hle:n+(hdL id blk (!wt) j).length<=100000:=by have:=Zoe id blk (!wt) j;have:=HK.out;have:=HM4.out;omega
   have HSY:=Hd (csay f hfo A5 c5 ((r4.below hba).more hba.size) kb (xs:=xs++hdL id blk (!wt) j) hle ((h12.front 2 rfl).front 2 rfl))
   rw[hfS,List.append_assoc,<-hnx,Nat.add_assoc,<-List.length_append,<-hnx]at HSY
   obtain⟨i1,⟨jn,hjn,i2,i3⟩,i4⟩:=j_facts hlt HM4.out
   have HJ:=Hd (And.intro hj (And.intro hlt hjn))
   have hmj:gk-1+(j+1)=m3/\gk-1 < gk:=j_meas hj hlt
   have HMJ:=Hd hmj
   clear hj hjn hmj h11 h12 hba hle hfo hnx hfS hf q0 q1 q2 q3 q4 q5 q6 p0 p1 p2 p3 p4 r4 hlt
   go_wp2_with fail
   refine Mo HSY ?_
   rintro e w13 ⟨rfl,A6,c6,h13⟩
   have H13:=Hd (h13.drop_ 2)
   clear h13 HSY r0 r1 r2 r3
   go_wp2
   go_roundg (gk-1)
   case measure=>exact HMJ.out.2
   case rel=>exact⟨j+1,HMJ.out.1,by rw[HJ.out.2.2];exact congrArg _ i3,Hd ⟨A6,c6,H13.out⟩⟩
  ·have hjm:j=m3:=j_end hj hlt
   subst hjm
   rw[<-HLr.out]at h11
   have i1:¬(j:Int) < (j:Int):=Int.lt_irrefl _
   have kC:=h11.at_ (i:=3) rfl
   have hfin:(!wt)=decide (b.length=0):=fin_not hwt2 HK.out.2.2.1
   have HFI:=Hd hfin
   have H11:=Hd h11
   unfold Zay at kC
   clear h11 hlt hj HRF hfin
   have HAW:=Hd (show Ztm id blk b=hdL id blk (!wt) j++(if b.length=0 then []else Zbh ⟨0,1,id,b⟩)by unfold Ztm;rw[<-HFI.out,<-HM3.out])
   cases wt
   ·have HB0:=Hd (show b.length=0 from of_decide_eq_true HFI.out.symm)
    have HPN:=Hd (Z00 H11.out)
    clear hwt hwt2
    go_wp2_with fail
    refine Mo HPN ?_
    rintro e w14 ⟨rfl,h14⟩
    have H14:=Hd h14
    clear h14 H11 HPN kC
    go_wp2
    go_ret2
    have h15:=Sep.ordN H14.out 13 [3,12,0,1,10,11,6,7] rfl (by decide)
    simp only[Zbo,Zbd,Zam,erS,erZ]at h15
    have h16:=Sep.ordN (Sep.manyAdd (Sep.weak (b:=calX X) h15 (fun hh=>⟨_,_,_,_,_,hh⟩) (fun k hk=>hk))) 7 [1,2,3,4,0,5,6] rfl (by decide)
    simp only[Zbo,Zbd,Zam,erS,erZ]at h16
    have e1:ow-bn=ow:=by have:=HK.out;have:=HB0.out;omega
    have e2:Ztm id blk b=hdL id blk (!false) j:=by rw[HAW.out,if_pos HB0.out,List.append_nil]
    rw[e1,e2]
    exact⟨⟨_,rfl⟩,_,_,_,_,_,_,_,h16⟩
   ·have hb0:¬b.length=0:=of_decide_eq_false HFI.out.symm
    have hm0:1<=bn:=by have:=HK.out.2.2.1;omega
    have hnn:n+(hdL id blk (!true) j).length<=100000:=by have:=Zoe id blk (!true) j;have:=HK.out.2.1;have:=HM4.out;omega
    have hfd:=frm_data k (by have:=HK.out.1;omega) b (by have:=HK.out.2.2.1;have:=HK.out.2.2.2.1;omega)
    rw[HID.out]at hfd
    have HCP:=Hd (fun(w1:World) (F1:List Zae) (O1 Q1:Option Addr) (oc1 qc1:Nat)=>vcp_one (w:=w1) (F:=F1) (kb:=kb) (C:=C) (M:=M) (X:=X) (n:=n+(hdL id blk (!true) j).length) (c:=c4) (oc:=oc1) (qc:=qc1) (m:=bn) (ow:=ow) (A:=A4) (OA:=O1) (QA:=Q1) (xs:=xs++hdL id blk (!true) j) (bl:=b) (cl:=cl++[(id,ptr X)]) (id:=id) (la:=id) (Zc7 HCN.out _) hnn hm0 (by have:=HK.out.2.2.2.1;omega) HK.out.2.2.1.symm HK.out.2.2.2.2.1 HK.out.2.2.2.2.2.1 hfd)
    have e2:=HAW.out
    rw[if_neg hb0]at e2
    rw[List.append_assoc,Nat.add_assoc,<-List.length_append,<-e2]at HCP
    have H12:=Hd (H11.out.newBlk 3 #[.int .i64 id])
    have kK:=H11.out.at_ (i:=0) rfl
    unfold Zau at kK
    clear hwt hwt2 hb0 hm0 hnn hfd e2 H11
    go_wp2_with (at_builtin;refine Zck rfl _ _ 58 3 rfl underlying58 Zg0 rfl (by decide) (by decide) _ 0 [] H12.out (i:=11) rfl rfl _ _ (j:=0) rfl rfl (by intro u hu;simp at hu;subst hu;rfl) rfl (by decide) ?_;intro A7 c7 w7 h7 _;have kK7:=h7.at_ (i:=1) rfl;have H7:=Hd h7;unfold Zau at kK7;clear h7)
    have h8:=H7.out.set_ (i:=1) rfl 2 (.slice A7 1 c7)
    have h9:=Sep.ordN h8 14 [1,2,11,12,4,5,7,8,13] rfl (by decide)
    simp only[List.set_cons_succ,List.set_cons_zero,Zbo,Zam,Zbd,erS,erZ,List.cons_append,List.nil_append,List.drop_succ_cons,List.drop_zero]at h9
    have HPP:=Hd (HCP.out _ _ _ _ _ _ h9)
    clear kK kK7 H7 h8 h9 HCP H12 kC
    refine Mo HPP ?_
    rintro e w14 ⟨rfl,A9,c9,h14⟩
    have H14:=Hd h14
    clear h14 HPP
    go_wp2
    go_ret2
    have h15:=Sep.ordN H14.out 8 [0,7,1,2,3,4,5,6] rfl (by decide)
    simp only[Zbo,Zbd,Zam,erS,erZ]at h15
    have h16:=Sep.ordN (Sep.manyAdd h15) 7 [1,2,3,4,0,5,6] rfl (by decide)
    simp only[Zbo,Zbd,Zam,erS,erZ]at h16
    exact⟨⟨_,rfl⟩,_,_,_,_,_,_,_,h16⟩
theorem Zy1 (n:Nat)(t f:Int)(h:n<=2147483647):(Zd4 (n:Nat) t f).length<=6:=by
 unfold Zd4
 split
 ·have:=Zky (n:Int).toNat t.toNat (by omega) f.toNat
  omega
 ·simp
theorem putL_1 (n:Nat)(t f:Int)(h:Zjw (n:Nat) t f):1<=(Zd4 (n:Nat) t f).length:=by
 unfold Zd4
 rw[if_pos h]
 unfold Zc9
 split
 ·simp
 ·simp
theorem txtL_6 (s:List UInt8):(Zco s).length<=s.length+6:=by
 unfold Zco
 split
 ·simp
 ·have h1:=Znj s
  have h2:=Zy1 (Zhf s).length 7 (Zju s) (by omega)
  rw[List.length_append]
  omega
theorem Zqj (xs:List Fld)(h:wt xs<=4096)(q:Fld->Bool):fnd q (Zb9 xs)<=2147483647:=by
 have h1:=Zhl q (Zb9 xs)
 have h2:=Zmj xs
 rw[Zcx]at h1
 omega
theorem saidF_wt (xs:List Fld)(f:Fld)(h:wt xs<=4096):1<=(Zdd 4096 xs f).length/\(Zdd 4096 xs f).length<=fsz f:=by
 have h1:=Zqj xs h (isF f)
 have h2:=Zqj xs h (isN f)
 unfold Zdd fsz
 split
 ·have h3:=Zy1 _ 7 128 h1
  have h4:=putL_1 (fnd (isF f) (Zb9 xs)) 7 128 (by unfold Zjw;refine⟨by decide,by decide,by omega,by omega,by decide,by decide,by decide⟩)
  omega
 ·have h3:=Zy1 _ 6 64 h2
  have h4:=putL_1 (fnd (isN f) (Zb9 xs)) 6 64 (by unfold Zjw;refine⟨by decide,by decide,by omega,by omega,by decide,by decide,by decide⟩)
  have h5:=txtL_6 f.1
  have h6:=txtL_6 f.2
  simp only[List.length_append]
  split
  ·omega
  ·simp only[List.length_nil]
   omega
theorem Zh8 :∀(l xs:List Fld),wt xs<=4096->l.length<=(Za0 4096 xs l).length/\(Za0 4096 xs l).length<=wt l
 | [],xs,h=>by simp[Za0,wt]
 | f::l,xs,h=>by
  have h1:=Zh8 l (Zem 4096 xs f) (Zkg 4096 xs f (by decide) h)
  have h2:=saidF_wt xs f h
  simp only[Za0,List.length_append,List.length_cons,wt]
  omega
theorem Zn9 :∀(l xs:List Fld),wt xs<=4096->wt (Zcs 4096 xs l)<=4096
 | [],xs,h=>h
 | f::l,xs,h=>Zn9 l _ (Zkg 4096 xs f (by decide) h)
structure DS where
 tx:List Fld
 xs:List UInt8
 na:Nat
 f:List UInt8->Option Nat
 jb:List (Nat×List UInt8×List UInt8)
def ansL (k:Nat)(tx:List Fld)(dg:List UInt8):List UInt8:=Zbh ⟨1,4,sid k,Za0 4096 tx (Zhu dg)⟩++Zbh ⟨0,1,sid k,dg⟩
def DS.ans (k:Nat)(dg:List UInt8)(d:DS):DS:=⟨Zcs 4096 d.tx (Zhu dg),d.xs++ansL k d.tx dg,d.na+1,d.f,d.jb⟩
theorem ans_tx (k:Nat)(dg:List UInt8)(d:DS):(d.ans k dg).tx=Zcs 4096 d.tx (Zhu dg):=by simp only[DS.ans]
theorem ans_xs (k:Nat)(dg:List UInt8)(d:DS):(d.ans k dg).xs=d.xs++ansL k d.tx dg:=by simp only[DS.ans]
theorem Zq9 (k:Nat)(dg:List UInt8)(d:DS):(d.ans k dg).na=d.na+1/\(d.ans k dg).f=d.f/\(d.ans k dg).jb=d.jb:=by simp only[DS.ans,and_self]
def DS.ask (r:Rq)(d:DS):DS:=⟨d.tx,d.xs,d.na,limS d.f r.h,d.jb⟩
def DS.job (k:Nat)(tq b:List UInt8)(d:DS):DS:=⟨d.tx,d.xs,d.na,d.f,d.jb++[(k,tq,b)]⟩
def DS.whole (k:Nat)(r:Rq)(d:DS):DS:=
 if r.bad then d.ans k [52,48,48]
 else if 1<=(d.f r.h).getD 5 then
  match toV r.p with
  | none=>(d.ask r).ans k [52,48,52]
  | some (tq,r')=>(d.ask r).job k tq (Zjt r.m r' r.h r.q r.b)
 else(d.ask r).ans k [52,50,57]
structure DOk (i:Nat)(d:DS):Prop where
 tx:wt d.tx<=4096
 na:d.na+d.jb.length=i
 xs:d.xs.length<=18+300*d.na
theorem ans_len (k:Nat)(tx:List Fld)(dg:List UInt8)(hw:wt tx<=4096)(hd:dg.length=3):(ansL k tx dg).length<=300:=by
 have h1:=Zh8 (Zhu dg) tx hw
 have h2:wt (Zhu dg)<=100:=by simp[Zhu,wt,fsz,hd]
 have h3:∀f:Frm,(Zbh f).length<=9+f.body.length:=fun f=>by
  by_cases h:Zeq f=0
  ·have:=Zbu h;omega
  ·unfold Zbh;rw[if_neg h];simp
 have h4:=h3 ⟨1,4,sid k,Za0 4096 tx (Zhu dg)⟩
 have h5:=h3 ⟨0,1,sid k,dg⟩
 simp only at h4 h5
 unfold ansL
 rw[List.length_append]
 omega
theorem DOk.ans {i k:Nat}{d:DS}{dg:List UInt8}(h:DOk i d)(hd:dg.length=3):DOk (i+1) (d.ans k dg):=by
 have h0:=Zn9 (Zhu dg) d.tx h.tx
 rw[<-ans_tx k dg d]at h0
 have h1:=ans_len k d.tx dg h.tx hd
 have h2:=h.xs
 have h3:=h.na
 obtain⟨e1,-,e3⟩:=Zq9 k dg d
 have e2:=ans_xs k dg d
 generalize d.ans k dg=d' at*
 refine⟨h0,?_,?_⟩
 ·rw[e1,e3]
  omega
 ·rw[e2,e1,List.length_append]
  omega
theorem DOk.ask {i:Nat}{d:DS}{r:Rq}(h:DOk i d):DOk i (d.ask r):=⟨h.tx,h.na,h.xs⟩
theorem DOk.job {i k:Nat}{d:DS}{tq b:List UInt8}(h:DOk i d):DOk (i+1) (d.job k tq b):=by
 refine⟨h.tx,?_,h.xs⟩
 have:=h.na
 show d.na+(d.jb++[(k,tq,b)]).length=i+1
 rw[List.length_append,List.length_singleton]
 omega
theorem DOk.whole {i k:Nat}{d:DS}{r:Rq}(h:DOk i d):DOk (i+1) (d.whole k r):=by
 unfold DS.whole
 split
 ·exact h.ans rfl
 ·split
  ·split
   ·exact h.ask.ans rfl
   ·exact h.ask.job
  ·exact h.ask.ans rfl
def dsR (d0:DS)(rs:Nat->Rq):Nat->DS
 | 0=>d0
 | i+1=>(dsR d0 rs i).whole i (rs i)
theorem Z0q {d0:DS}(rs:Nat->Rq)(h:DOk 0 d0):∀i,DOk i (dsR d0 rs i)
 | 0=>h
 | i+1=>(Z0q rs h i).whole
theorem vg_job {w:World}{F Js:List Zae}{ig ij ia g kb Li St CM JM jc n:Nat}{ad:Addr}{R log:Value}{last id st:Int}{tq:ByteArray}{b:List UInt8}{jo:List (Int×Value)}(h:Sep w F)(hg:F[ig]? =some (Zaa g 120 (Za7 kb R Li St CM JM last log)))(hj:F[ij]? =some (Zan Zat JM jo))(hv:Za8 jo id=some (.agg #[.int .i64 st,.string tq,.slice (some ad) n jc]))(hn:n=b.length)(hb:n<=100000)(ha:F[ia]? =some (Zff Js))(hm:Zir ad b∈Js):
  CA 20 #[.pointer (some ⟨g,0,none⟩),.int .i64 id] w fun e w'=>∃A c,e=.returned (.tuple #[.string tq,.slice A n c,.nilIface])/\Sep w' (Zad 5 1 (.slice A n c) n (bs b)::F):=by
 have kg:=h.at_ hg
 have ql:(Instr.lookup 117 (.map (some JM)) (.int .i64 id) true).run prog w=.ok (.tuple #[.agg #[.int .i64 st,.string tq,.slice (some ad) n jc],.bool true]) w:=h.lookV (P:=prog) Zja hj underlying117 underlying3 hv true
 have h0:=h.newBlk 141 #[.int .i64 st,.string tq,.slice (some ad) n jc]
 have kD:=h0.at_ (i:=0) rfl
 have H0:=Hd h0.drew
 have HC:=Hd (Zcd (some ad) b n jc hn (fun e=>by cases e) (by omega) _ (show Zab _ _ 1 (some ad) b.length (bs b)from(h0.drew.many (i:=ia+1) ha hm).1))
 rw[<-hn]at HC
 unfold Za7 at kg
 have d1:=kD.1 1
 have d2:=kD.1 2
 clear h h0 hv hn hb hm
 go_enter func20,ntmps20
 go_upto_region 4 with fail
 obtain⟨W,hW⟩:=exl (w.alloc (.cells #[.int .i64 st,.string tq,.slice (some ad) n jc] 141))
 rw[hW]at H0 HC d1 d2 kD⊢
 clear ql kg
 go_region_held3 (fun w'=>w'.cell? ⟨w.heap.size,1,none⟩=some (.string tq)/\w'.cell? ⟨w.heap.size,2,none⟩=some (.slice (some ad) n jc))
  (first | (with_reducible exact⟨d1,d2⟩) | (with_reducible exact⟨e1,e2⟩) | go_keep)
  (first
  | (go_at_call 46;refine HC.out.mono ?_;rintro e w4 ⟨A,c,rfl,hown,hb⟩;have h4:=H0.out.newRow hb hown;have kD4:=h4.at_ (i:=1) rfl;have e1:=kD4.1 1;have e2:=kD4.1 2;have H4:=Hd h4;clear hown hb h4 kD4 d1 d2))
 all_goals
  go_wp2
  go_ret3
  exact⟨A,c,rfl,H4.out.drop_ 1⟩
theorem Zhq {K:Type} [DecidableEq K]{l:List (K×Value)}{k:K}{v v0:Value}(h:Za8 l k=some v0):Za8 (Ze3 l k v) k=some v:=by
 rw[Zc8,if_pos rfl,h]
 rfl
theorem Zxc {K:Type} [DecidableEq K](l:List (K×Value))(k:K)(v v2:Value):Ze3 (Ze3 l k v) k v2=Ze3 l k v2:=by
 unfold Ze3
 rw[List.map_map]
 apply List.map_congr_left
 intro p _
 simp only[Function.comp]
 by_cases h:p.1=k
 ·simp[h]
 ·simp[h]
theorem vg_say {cd last jl:Int}{dg blk bl xs fb:List UInt8}{tx:List Fld}(hC:Zrd cd dg){w w0:World}{F:List Zae}{io g kb C S M MS X n c oc gg hh bc Li St CM JM tc k ow co:Nat}{A OA TA:Option Addr}{ad:Addr}{R log inn part evs:Value}{cl sl:List (Int×Value)}{iw un ci cu:Int}{began:Bool}(hP:Pow w0)(hio:F[io]? =some (Zel w0))(hk:k < 1000)(hl:sid k<=last)(hcv:Za8 cl (sid k)=some (ptr X))(hsv:Za8 sl (sid k)=some (.int .i64 2))(hsd:(sl.map (·.1)).Nodup)(hn:n<=90000)
  (hf:∀f∈Zhu dg,fOk f) (hE:Ze7 (Zhu dg)=0) (hblk:Za0 4096 tx (Zhu dg)=blk) (hb0:0 < blk.length) (hb1:blk.length<=1024) (hfr:Zeq ⟨1,4,sid k,blk⟩=0) (hbl:bl.length=3) (how:3<=ow) (how2:ow<=2000) (hco:3<=co) (hco2:co<=2000) (hfd:Zeq ⟨0,1,sid k,bl⟩=0) (hfb:Zbh ⟨1,4,sid k,blk⟩++Zbh ⟨0,1,sid k,bl⟩=fb)
  (h:Sep w (Zaa g 120 (Za7 kb R Li St CM JM jl log)::Zaa C 93 (Zai gg hh)::Zbw gg TA tc tx 4096::Zaa kb 200 (Zaf C S M (.slice OA 0 oc) inn (.slice A n c) iw ow un began part evs)::Zad 5 1 (.slice A n c) n (bs xs)::Zad 3 1 (.slice OA 0 oc) 0 []::Zan Zat M cl::
   Zaa X 313 (Zbn ci co cu (.slice none 0 0) false false)::Zaa S 254 (Zbf MS last)::Zan Zat MS sl::Zir ad bl::F)):
  CA 128 #[.pointer (some ⟨g,0,none⟩),.int .i64 (sid k),.agg (Zdx cd (.slice none 0 0) (.slice (some ad) 3 bc))] w fun e w'=>e=.returned (.bool true)/\∃A' c' OA' oc' TA' tc',Sep w' (Zaa g 120 (Za7 kb R Li St CM JM jl log)::Zaa C 93 (Zai gg hh)::Zbw gg TA' tc' (Zcs 4096 tx (Zhu dg)) 4096::Zaa kb 200 (Zaf C S M (.slice OA' 0 oc') inn (.slice A' (n+fb.length) c') iw ((ow-3:Nat):Int) un began part evs)::Zad 5 1 (.slice A' (n+fb.length) c') (n+fb.length) (bs (xs++fb))::Zad 3 1 (.slice OA' 0 oc') 0 []::Zan Zat M cl::
   Zaa S 254 (Zbf MS last)::Zan Zat MS (Ze3 sl (sid k) (.int .i64 4))::Zir ad bl::F):=by
 have h0:=h.newBlk 69 (Zdx cd (.slice none 0 0) (.slice (some ad) 3 bc))
 have HT:=Hd (vf_tell hC (bc:=bc) (BA:=some ad) (io:=io+12) hP hio h0)
 have HBA:=Hd hC.ba
 have HAN:=Hd (fun(w1:World) (F1:List Zae) (LA:Option Addr) (lc:Nat)=>Zxt (w:=w1) (F:=F1) (kb:=kb) (C:=C) (S:=S) (M:=M) (MS:=MS) (X:=X) (n:=n) (c:=c) (gg:=gg) (hh:=hh) (lc:=lc) (tc:=tc) (k:=k) (nl:=2) (A:=A) (LA:=LA) (TA:=TA) (ord:=.slice OA 0 oc) (inn:=inn) (part:=part) (evs:=evs) (q:=.slice none 0 0) (xs:=xs) (blk:=blk) (tx:=tx) (l:=Zhu dg) (cl:=cl) (sl:=sl) (iw:=iw) (ow:=ow) (un:=un) (ci:=ci) (co:=co) (cu:=cu) (last:=last) (began:=began) (en:=false) hk hl hcv hsv hsd (by omega) hf (by simp[Zhu]) hE rfl hblk hb0 hb1 hfr)
 have hfl:(Zbh ⟨1,4,sid k,blk⟩).length<=2000:=by have:=Zbu hfr;simp at this;omega
 have HSN:=Hd (fun(w1:World) (F1:List Zae) (A1:Option Addr) (c1:Nat) (hr:Zab w1 w1.heap.size 1 (some ad) 3 (bs bl))=>vn_send (w:=w1) (F:=F1) (kb:=kb) (C:=C) (S:=S) (M:=M) (MS:=MS) (X:=X) (n:=n+(Zbh ⟨1,4,sid k,blk⟩).length) (c:=c1) (oc:=oc) (k:=k) (m:=3) (ow:=ow) (co:=co) (A:=A1) (OA:=OA) (BA:=some ad) (bc:=bc) (inn:=inn) (part:=part) (evs:=evs) (xs:=xs++Zbh ⟨1,4,sid k,blk⟩) (bl:=bl) (cl:=cl) (sl:=Ze3 sl (sid k) (.int .i64 2)) (iw:=iw) (un:=un) (ci:=ci) (cu:=cu) (last:=last) (began:=began) hk hl hcv (Zhq hsv) (by rw[Zgp];exact hsd) (by omega) (by decide) (by decide) hbl how how2 hco hco2 hfd hr)
 have HBL:=Hd hbl
 have hss:=Zxc sl (sid k) (.int .i64 2) (.int .i64 4)
 rw[hss]at HSN
 have hln:n+(Zbh ⟨1,4,sid k,blk⟩).length+(Zbh ⟨0,1,sid k,bl⟩).length=n+fb.length:=by rw[<-hfb,List.length_append];omega
 have hxs:xs++Zbh ⟨1,4,sid k,blk⟩++Zbh ⟨0,1,sid k,bl⟩=xs++fb:=by rw[<-hfb,List.append_assoc]
 rw[hln,hxs]at HSN
 obtain⟨n2,hn2⟩:∃q,n+(Zbh ⟨1,4,sid k,blk⟩).length=q:=⟨_,rfl⟩
 obtain⟨x2,hx2⟩:∃q,xs++Zbh ⟨1,4,sid k,blk⟩=q:=⟨_,rfl⟩
 rw[hn2,hx2]at HAN HSN
 obtain⟨id,hid⟩:=exl (sid k)
 rw[hid]at HAN HSN⊢
 unfold Zdx at HT
 clear h h0 hss hln hxs hn2 hx2 hid hfl hC hP hio hk hl hcv hsv hsd hn hf hE hblk hb0 hb1 hfr hbl how how2 hco hco2 hfd hfb
 unfold Zdx
 go_enter func128,ntmps128
 go_wp2_with fail
 refine Mo HT ?_
 rintro e w1 ⟨LA,lc,rfl,h1⟩
 have kP:=h1.at_ (i:=1) rfl
 have kg:=h1.at_ (i:=2) rfl
 have h2:=Sep.ordN h1 13 [3,4,5,6,8,9,10,11,0,1,2,7,12] rfl (by decide)
 simp only[Zbo,Zbd,Zam,erS,erZ]at h2
 have H1:=Hd h2
 unfold Zdx at kP
 unfold Za7 at kg
 clear HT h1 h2
 go_wp2_with fail
 refine(HBA.out _).mono ?_
 rintro e w2 ⟨rfl,rfl⟩
 go_wp2_with fail
 refine(show Calls _ _ _ _ _ from HAN.out _ _ _ _ H1.out).mono ?_
 rintro e w3 ⟨rfl,A3,c3,TA3,tc3,h3⟩
 clear kP kg H1 HAN HBA
 have kP:=h3.at_ (i:=8) rfl
 have kg:=h3.at_ (i:=9) rfl
 have hr3:=h3.drew.byt (i:=11) rfl
 rw[HBL.out]at hr3
 have HR:=Hd hr3
 have h4:=Sep.ordN h3.drew 12 [2,3,10,4,5,6,7,8,9,0,1,11] rfl (by decide)
 simp only[Zbo,Zbd,Zam,erS,erZ]at h4
 have H3:=Hd h4
 unfold Zdx at kP
 unfold Za7 at kg
 have p2:=kP.1 2
 have g0:=kg.1 0
 clear h3 h4 hr3
 go_wp2_with fail
 go_region_held3 (fun w'=>w'.cell? ⟨g,0,none⟩=some (.pointer (some ⟨kb,0,none⟩))/\w'.cell? ⟨w.heap.size,2,none⟩=some (.slice (some ad) 3 bc))
  (first | (with_reducible exact⟨g0,p2⟩) | (with_reducible exact⟨g4,p4⟩) | go_keep)
  (first
  | (go_at_call 185;refine(show Calls _ _ _ _ _ from HSN.out _ _ _ _ HR.out H3.out).mono ?_;rintro e w4 ⟨rfl,A4,c4,OA4,oc4,h4⟩;have kP4:=h4.at_ (i:=6) rfl;have kg4:=h4.at_ (i:=7) rfl;unfold Za7 at kg4;have p4:=kP4.1 2;have g4:=kg4.1 0;have H4:=Hd h4;clear h4 g0 p2 H3 HSN HR kP kg kP4 kg4))
 go_wp2
 go_ret
 have h5:=Sep.ordN H4.out 11 [7,8,9,0,1,2,3,4,5,10] rfl (by decide)
 simp only[Zbo,Zbd,Zam,erS,erZ]at h5
 exact⟨rfl,A4,c4,OA4,oc4,TA3,tc3,h5⟩
theorem cn_send {w:World}{F:List Zae}{kb C S M MS X n c mc sc bc:Nat}{A BA:Option Addr}{inn part evs:Value}{xs:List UInt8}{iw un ci cu:Int}{began:Bool}(hn:n<=1000)
  (h:Sep w (Zaa kb 200 (Zaf C S M (.slice none 0 0) inn (.slice A n c) iw 2000 un began part evs)::Zad 5 1 (.slice A n c) n (bs xs)::Zak M (Zaw (.pointer (some ⟨X,0,none⟩))) mc::
   Zaa X 313 (Zbn ci 2000 cu (.slice none 0 0) false false)::Zaa S 254 (Zbf MS 1)::Zak MS (Zaw (.int .i64 2)) sc::Zad 5 1 (.slice BA 4 bc) 4 (bs Zb6)::F)):
  CA 185 #[.pointer (some ⟨kb,0,none⟩),.int .i64 1,.slice BA 4 bc,.bool true] w fun e w'=>e=.returned .nilIface/\∃A' c' Q' OA oc,Sep w' (Zaa kb 200 (Zaf C S M (.slice OA 0 oc) inn (.slice A' (n+13) c') iw 1996 un began part evs)::Zad 5 1 (.slice A' (n+13) c') (n+13) (bs (xs++bdyB))::Zad 3 1 (.slice OA 0 oc) 0 []::Zak M (Zaw (.pointer (some ⟨X,0,none⟩))) mc::
   Zaa X 313 (Zbn ci 1996 cu Q' false true)::Zaa S 254 (Zbf MS 1)::Zak MS (Zaw (.int .i64 4)) sc::Zad 5 1 (.slice BA 4 bc) 4 (bs Zb6)::F):=by
 have kK:=h.at_ (i:=0) rfl
 have kC:=h.at_ (i:=3) rfl
 have n1:=h.ne_ (i:=0) (i':=3) rfl rfl (by decide)
 have n2:=Ne.symm n1
 have h1:=h.newBlk 23 #[.slice none 0 0,.slice BA 4 bc]
 have kC1:=h1.at_ (i:=4) rfl
 have hps:Ze1 (w.alloc (.cells #[.slice none 0 0,.slice BA 4 bc] 23)) 1 w.heap.size [⟨none,0,0,[]⟩,⟨BA,4,bc,bs Zb6⟩]:=by
  intro k hk
  match k,hk with
  | 0,_=>exact⟨(h1.at_ (i:=0) rfl).1 0,Zab.none_,by simp⟩
  | 1,_=>exact⟨(h1.at_ (i:=0) rfl).1 1,Zag h1 (i:=7) rfl,Zcj _⟩
 have HC:=Hd (Zfx _ _ _ hps (by simp[Zcm]) (by simp))
 have H:=Hd h
 have H1:=Hd h1
 unfold Zaf at kK
 unfold Zbn at kC kC1
 clear h h1 hps
 go_enter func185,ntmps185
 go_wp2_with fail
 refine(Zta H.out (i:=0) (i1:=4) (j:=5) rfl rfl rfl).mono ?_
 rintro e w' ⟨rfl,rfl⟩
 go_wp2_with fail
 refine(Zzn H.out (i:=0) (j:=2) rfl rfl).mono ?_
 rintro e w' ⟨rfl,rfl⟩
 go_wp2_with fail
 refine Mo HC ?_
 rintro e w2 ⟨v,rfl,hown,hb2⟩
 change w2.ownsRow _ _ 1 v 4 (bs Zb6)at hown
 obtain⟨QA,qc,rfl⟩:=Zas hown
 have h2:=H1.out.newRow hb2 hown
 clear kK kC kC1 n1 n2 H HC H1 hown hb2
 have kK:=h2.at_ (i:=2) rfl
 have kC:=h2.at_ (i:=5) rfl
 have n1:=h2.ne_ (i:=2) (i':=5) rfl rfl (by decide)
 have n2:=Ne.symm n1
 have H2:=Hd h2
 unfold Zaf at kK
 unfold Zbn at kC
 clear h2
 go_upto_region 10 with fail
 obtain⟨w3,hw3⟩:=exl (((w2.setCell ⟨X,3,none⟩ (.slice QA 4 qc)).setCell ⟨X,5,none⟩ (.bool true)).setCell ⟨X,4,none⟩ (.bool true))
 have h3:=((H2.out.set_ (i:=5) rfl 3 (.slice QA 4 qc)).set_ (i:=5) rfl 5 (.bool true)).set_ (i:=5) rfl 4 (.bool true)
 rw[hw3]at h3⊢
 change Sep w3 (_::_::_::_::_::Zaa X _ (Zbn ci 2000 cu (.slice QA 4 qc) true true)::_)at h3
 clear kK kC n1 n2 H2 hw3
 have kK:=h3.at_ (i:=2) rfl
 have h4:=(h3.nilRow 3 1).newBlk 3 #[.int .i64 1]
 have H4:=Hd h4
 unfold Zaf at kK
 clear h3 h4
 go_wp2_with (at_builtin;refine Zck rfl _ _ 58 3 rfl underlying58 Zg0 rfl (by decide) (by decide) _ 0 [] H4.out (i:=1) rfl rfl _ _ (j:=0) rfl rfl (by intro u hu;simp at hu;subst hu;rfl) rfl (by decide) ?_;intro A5 c5 w5 h5 _;have kK5:=h5.at_ (i:=4) rfl;have H5:=Hd h5;unfold Zaf at kK5;clear h5)
 have h6:=H5.out.set_ (i:=4) rfl 3 (.slice A5 1 c5)
 change Sep _ (_::Zad _ 1 (.slice A5 1 c5) 1 [.int .i64 1]::_::_::Zaa kb _ (Zaf C S M (.slice A5 1 c5) inn (.slice A n c) iw 2000 un began part evs)::_)at h6
 have h7:=(((((((h6.drop_ 0).drop_ 2).front 1 rfl).front 5 rfl).front 5 rfl).front 3 rfl).front 5 rfl).front 5 rfl
 clear kK kK5 H4 H5 h6
 refine(np_one hn h7).mono ?_
 rintro e w8 ⟨rfl,A8,c8,Q8,h8⟩
 have H8:=Hd h8
 clear h7 h8
 go_wp2
 go_ret
 exact⟨rfl,A8,c8,Q8,A5,c5,H8.out.drop_ 5⟩
def rsB :List UInt8:=rhdB++bdyB
theorem ga_say {w w0:World}{F:List Zae}{io g kb C S M MS X n c mc sc gg hh bc Li St CM JM:Nat}{A BA:Option Addr}{R log inn part evs:Value}{xs:List UInt8}{iw un ci cu last:Int}{began:Bool}(hn:n<=900)(hP:Pow w0)(hio:F[io]? =some (Zel w0))
  (h:Sep w (Zaa g 120 (Za7 kb R Li St CM JM last log)::Zaa C 93 (Zai gg hh)::Zbw gg none 0 [] 4096::Zaa kb 200 (Zaf C S M (.slice none 0 0) inn (.slice A n c) iw 2000 un began part evs)::Zad 5 1 (.slice A n c) n (bs xs)::Zak M (Zaw (.pointer (some ⟨X,0,none⟩))) mc::
   Zaa X 313 (Zbn ci 2000 cu (.slice none 0 0) false false)::Zaa S 254 (Zbf MS 1)::Zak MS (Zaw (.int .i64 2)) sc::Zad 5 1 (.slice BA 4 bc) 4 (bs Zb6)::F)):
  CA 128 #[.pointer (some ⟨g,0,none⟩),.int .i64 1,.agg (Zdx 200 (.slice none 0 0) (.slice BA 4 bc))] w fun e w'=>e=.returned (.bool true)/\∃A' c' Q' OA oc,Sep w' (Zaa g 120 (Za7 kb R Li St CM JM last log)::Zaa kb 200 (Zaf C S M (.slice OA 0 oc) inn (.slice A' (n+26) c') iw 1996 un began part evs)::Zad 5 1 (.slice A' (n+26) c') (n+26) (bs (xs++rsB))::Zad 3 1 (.slice OA 0 oc) 0 []::Zak M (Zaw (.pointer (some ⟨X,0,none⟩))) mc::
   Zaa X 313 (Zbn ci 1996 cu Q' false true)::Zaa S 254 (Zbf MS 1)::Zak MS (Zaw (.int .i64 4)) sc::Zad 5 1 (.slice BA 4 bc) 4 (bs Zb6)::F):=by
 have h0:=h.newBlk 69 (Zdx 200 (.slice none 0 0) (.slice BA 4 bc))
 have HT:=Hd (ft_tell (bc:=bc) (BA:=BA) (io:=io+11) hP hio h0)
 unfold Zdx at HT
 clear h h0
 unfold Zdx
 go_enter func128,ntmps128
 go_wp2_with fail
 refine Mo HT ?_
 rintro e w1 ⟨LA,lc,rfl,h1⟩
 have kP:=h1.at_ (i:=1) rfl
 have kg:=h1.at_ (i:=2) rfl
 have H1:=Hd (((((((((h1.front 10 rfl).front 10 rfl).front 10 rfl).front 10 rfl).front 10 rfl).front 10 rfl).front 10 rfl).front 10 rfl))
 unfold Zdx at kP
 unfold Za7 at kg
 clear HT h1
 go_wp2_with fail
 refine(Z1n _).mono ?_
 rintro e w2 ⟨rfl,rfl⟩
 go_wp2_with fail
 refine(Z06 (by omega) H1.out).mono ?_
 rintro e w3 ⟨rfl,A3,c3,h3⟩
 clear kP kg H1
 have kP:=h3.at_ (i:=6) rfl
 have kg:=h3.at_ (i:=7) rfl
 have H3:=Hd (((((((h3.front 8 rfl).front 6 rfl).front 6 rfl).front 6 rfl).front 6 rfl).front 6 rfl).front 6 rfl).drew
 unfold Zdx at kP
 unfold Za7 at kg
 have p2:=kP.1 2
 have g0:=kg.1 0
 clear h3
 go_wp2_with fail
 go_region_held3 (fun w'=>w'.cell? ⟨g,0,none⟩=some (.pointer (some ⟨kb,0,none⟩))/\w'.cell? ⟨w.heap.size,2,none⟩=some (.slice BA 4 bc))
  (first | (with_reducible exact⟨g0,p2⟩) | (with_reducible exact⟨g4,p4⟩) | go_keep)
  (first
  | (go_at_call 185;refine(cn_send (by omega) H3.out).mono ?_;rintro e w4 ⟨rfl,A4,c4,Q4,OA,oc,h4⟩;have kP4:=h4.at_ (i:=8) rfl;have kg4:=h4.at_ (i:=9) rfl;unfold Zdx at kP4;unfold Za7 at kg4;have p4:=kP4.1 2;have g4:=kg4.1 0;rw[show xs++rhdB++bdyB=xs++rsB from List.append_assoc _ _ _]at h4;have H4:=Hd ((h4.front 9 rfl).drop_ 9);clear h4 g0 p2 H3 kP4 kg4))
 go_wp2
 go_ret
 exact⟨rfl,A4,c4,Q4,OA,oc,H4.out⟩
end
end Go.Proofs.YtbgnggkgmeagkaaGreatDoor
