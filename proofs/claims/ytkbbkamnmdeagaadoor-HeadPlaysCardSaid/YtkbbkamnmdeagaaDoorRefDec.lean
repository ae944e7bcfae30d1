/-
  The reference's Decode by its contract. Condition: the bound on the row's length.
-/
import Derived.Test.YtkbbkamnmdeagaaDoorMHeadPlays16
import Derived.Deep.AppendLies
import Derived.Deep.RegionLaw
namespace Go.Proofs.YtkbbkamnmdeagaaDoor
open Go.RowKit

theorem unpack_take (l : List UInt8) (k : Nat) (h : k < l.length) : unpack (l.take (k + 1)) = unpack (l.take k) ++ bitsOf 8 l[k].toNat := by
  rw [List.take_add_one, List.getElem?_eq_getElem h]
  unfold unpack
  rw [List.flatMap_append]
  simp

theorem wrap_small (x : Int) (h0 : 0 ≤ x) (h : x ≤ 512) : IntKind.i64.wrap x = x := by
  rw [IntKind.wrap_i64]
  omega
theorem wrap8_small (x : Int) (h0 : 0 ≤ x) (h : x ≤ 1) : IntKind.u8.wrap x = x := by
  rw [IntKind.wrap_u8]
  omega
theorem step_push {ops : Array Oper} {o : Oper} {a : Act} {K : Act → World → Prop} {Q : Exit → Act → World → Prop} {E : Prop} {w : World} {u : Value} (hgd : o.guard = none) (s x : Operand)
    (ho : o.op = .call { callee := .builtin .append, args := #[s, x], argTypes := #[22, 22] })
    (base : Nat) (v : Value) (n : Nat) (xs : List Value) (hs : a.eval s = v) (hown : w.ownsRow base 5 1 v n xs)
    (hx : a.eval x = .slice (some ⟨w.heap.size, 0, none⟩) 1 1) (h1 : u.oneCell' = true) (hn : n + 1 ≤ 140737488355328) (hbase : base ≤ w.heap.size)
    (h : ∀ v' w', w'.ownsRow base 5 1 v' (n + 1) (xs ++ [u]) → Below base w w' → K (a.put o.dst v') w') :
    if Region.wanted o (yielded ops a.tmps) = true then Oper.wp Tryd.prog o a (w.alloc (.cells #[u] 5)) K Q else E := by
  obtain ⟨i0, hi, hz0, hz1, hz2⟩ := info_parts u8_info
  refine step_append_lies (w.alloc (.cells #[u] 5)) hgd s x 22 ho base 5 i0 (.int .u8 0) 1 1 Tryd.underlying22 hi hz0 hz1 hz2 rfl (by decide) v n xs hs (hown.alloc _) ⟨w.heap.size, 0, none⟩ 1 1 [u] hx rfl (cell_one_new _ _ _) (by simpa using h1) (by decide) (by simp only [maxLen]; omega) (by omega) (by simp; omega) _ rfl ?_
  intro g cap w' hown' hg _ _
  exact h _ w' hown' (below_append ((Below.refl _ _).alloc hbase _) (hown.alloc _) hg (by simp; omega))

set_option maxRecDepth 100000 in
set_option maxHeartbeats 4000000 in
theorem rdecode_any (l : List UInt8) (hl : l.length ≤ 68719476736) (A : Option Addr) (n c : Nat) (hn : n = l.length) (w : World) (hr : Reads w w.heap.size 1 A l.length (bs l)) :
    Calls Tryd.prog 25 #[.slice A n c] w fun e w' => e = .returned (.tuple #[.string ⟨((dec (unpack l)).getD []).toArray⟩, .bool (dec (unpack l)).isSome]) ∧ Below w.heap.size w w' := by
  subst hn
  have hul := unpack_length l
  go_enter Tryd.func25, Tryd.ntmps25
  go_wp2
  go_loopw [4, 5] (fun v i wr => ∃ k : Nat, k ≤ l.length ∧ i = .int .i64 k ∧ wr.ownsRow w.heap.size 5 1 v (8 * k) (bs (bb (unpack (l.take k)))) ∧ Below w.heap.size w wr) (fun _ i _ => l.length - (intOf i).toNat)
  case atStart => exact ⟨0, Nat.zero_le _, rfl, World.ownsRow_nil _ _ _ _, Below.refl _ _⟩
  case round =>
    obtain ⟨k, hk, rfl, hown, hb⟩ := hrel
    have hsz := hb.size
    by_cases hlt : k < l.length
    · have HT := Lib.hid (unpack_take l k hlt)
      obtain ⟨b0, off, rfl, hbB, hcl⟩ := reads_byte hr hlt
      have hyb : l[k].toNat < 256 := l[k].toNat_lt
      have HCL := Lib.hid hcl
      clear hr hcl
      generalize l[k].toNat = y at *
      go_wp2_with fail
      go_loopw [4, 6] (fun v j wr => ∃ (m : Nat) (pre : List Bool), m ≤ 8 ∧ j = .int .i64 ((m : Int) - 1) ∧ Hid (bitsOf 8 y = pre ++ bitsOf m y) ∧ pre.length + m = 8 ∧ wr.ownsRow w.heap.size 5 1 v (8 * k + pre.length) (bs (bb (unpack (l.take k) ++ pre))) ∧ Below w.heap.size w wr) (fun _ j _ => (intOf j + 1).toNat)
      case atStart => exact ⟨8, [], Nat.le_refl _, by go_num, rfl, by simp, by simpa using hown, hb⟩
      case round =>
        obtain ⟨m, pre, hmm, rfl, HP, hpl, hown2, hb2⟩ := hrel
        clear hown hb hsz
        have hsz2 := hb2.size
        rcases m with _ | i
        · have e := HP.out
          rw [show ∀ x, bitsOf 0 x = [] from fun _ => rfl, List.append_nil] at e
          have HE := Lib.hid e
          clear e HP
          go_wp2
          go_roundw
          case rel =>
            refine ⟨k + 1, by omega, by go_num, ?_, hb2⟩
            rw [HT.out, HE.out, show 8 * (k + 1) = 8 * k + pre.length by omega]
            exact hown2
          case measure => simp [intOf]; omega
        · have ei : (((i + 1 : Nat) : Int) - 1) = (i : Int) := by omega
          rw [ei]
          have e := HP.out
          rw [show bitsOf (i + 1) y = y.testBit i :: bitsOf i y from rfl, List.append_cons] at e
          have HE := Lib.hid e
          clear e HP ei
          have hi8 : i ≤ 8 := by omega
          obtain ⟨Pw, hp1, hp0, hp2, hpb, HPC⟩ := rpow_bit y i (by omega) hi8
          have HPH := Lib.hid HPC
          have hbb2 : (y.testBit i).toNat ≤ 1 := by cases y.testBit i <;> decide
          have HPB := Lib.hid hpb
          clear HPC hpb
          generalize y.testBit i = bt at *
          have hpb := HPB.out
          have hcl2 := (hb2.cell (p := ⟨b0, off + k, none⟩) hbB).trans HCL.out
          have hP0 : ¬ Pw = 0 := by omega
          have w1 : IntKind.i64.wrap (y : Int) = (y : Int) := wrap_small _ (by omega) (by omega)
          have w2 : IntKind.i64.wrap ((y : Int) / Pw) = (y : Int) / Pw := wrap_small _ hp0 hp2
          have w3 : ((y : Int) / Pw).tmod 2 = (bt.toNat : Int) := by rw [Int.tmod_eq_emod_of_nonneg hp0, hpb]
          have w4 : IntKind.u8.wrap (bt.toNat : Int) = (bt.toNat : Int) := wrap8_small _ (by omega) (by omega)
          go_wp2_with fail
          go_region_law (first
            | (go_simp; go_at_call 68; refine (HPH.out _).mono ?_; rintro e w' ⟨rfl, rfl⟩)
            | (refine step_push (w := wr.drew) (u := .int .u8 (bt.toNat : Int)) rfl (.tmp 24) (.tmp 35) rfl w.heap.size u4 (8 * k + pre.length) (bs (bb (unpack (l.take k) ++ pre))) (by simp [Act.eval]) hown2.drew (by simp [Act.eval]) rfl (by omega) hsz2 ?_; intro v3 w3 hown3 hb3))
          all_goals
            go_wp2
            go_roundw
            case rel =>
              refine ⟨i, pre ++ [bt], by omega, by go_num, HE.out, by simp; omega, ?_, hb2.trans ((Below.refl _ _).drew.trans hb3)⟩
              rw [← List.append_assoc, bb_append, bs_append, List.length_append, bs_bb_one]
              exact hown3
            case measure => simp [intOf]
    · have hkl : k = l.length := by omega
      subst hkl
      rw [List.take_length] at hown
      have HUL := Lib.hid hul
      clear hul hr
      obtain ⟨L, hLu⟩ : ∃ L, unpack l = L := ⟨_, rfl⟩
      have HLU := Lib.hid hLu
      rw [hLu] at hown HUL
      clear hLu
      have HLL : Hid (L.length = 8 * l.length) := HUL.out
      obtain ⟨M, hM⟩ : ∃ M, M = 8 * l.length := ⟨_, rfl⟩
      rw [← hM] at hown
      obtain ⟨A1, c1, rfl, hc1, hr1⟩ := isBytes_of_own (l := bb L) (by rw [bb_length, HLL.out, ← hM]; exact hown)
      have hbl : (bb L).length = M := by rw [bb_length, HLL.out, hM]
      rw [hbl] at hr1 hc1 ⊢
      have hM0 : M ≤ 549755813888 := by omega
      have HLM : Hid (L.length = M) := by show _ = _; rw [HLL.out, hM]
      clear hown hM HLL HUL hbl
      obtain ⟨wo, rfl⟩ : ∃ wo : World, wo = wr := ⟨_, rfl⟩
      go_wp2_with fail
      go_loopw [7, 8] (fun v i wr => ∃ (a : Nat) (s : List UInt8), a ≤ M ∧ s.length ≤ a ∧ i = .int .i64 a ∧ wr.ownsRow wo.heap.size 5 1 v s.length (bs s) ∧ Below wo.heap.size wo wr ∧ Hid (dec L = (dec (L.drop a)).map (s ++ ·))) (fun _ i _ => M - (intOf i).toNat)
      case atStart => exact ⟨0, [], Nat.zero_le _, Nat.le_refl _, rfl, World.ownsRow_nil _ _ _ _, Below.refl _ _, by show _ = _; simp⟩
      case round =>
        obtain ⟨a, s, ha, hs, rfl, hown, hbo, HD⟩ := hrel
        have hsz2 := hbo.size
        by_cases haM : a < M
        · obtain ⟨b0, off, rfl, hbB, hcl⟩ := hr1.form (by omega)
          have hcl2 : ∀ q u, (bs (bb L))[q]? = some u → wr.cell? ⟨b0, off + q, none⟩ = some u := by
            intro q u h
            rw [hbo.cell (p := ⟨b0, off + q, none⟩) hbB]
            exact hcl q u h
          have HCL := Lib.hid hcl2
          have hla : a < L.length := by rw [HLM.out]; exact haM
          have HLA := Lib.hid hla
          obtain ⟨bt, hT⟩ : ∃ bt, L[a]'hla = bt := ⟨_, rfl⟩
          have hca : wr.cell? ⟨b0, off + a, none⟩ = some (.int .u8 ((bt.toNat : Nat) : Int)) := by
            rw [← hT]
            exact HCL.out a _ (bb_at L a hla)
          clear hcl hcl2 hr1
          cases bt with
          | false =>
            have hca0 : wr.cell? ⟨b0, off + a, none⟩ = some (.int .u8 0) := hca
            have HTT : Hid (L[a]'HLA.out = false) := hT
            clear hca hT hla
            by_cases h6 : a + 6 ≤ M
            · have HN := Lib.hid (rd_often L a (by rw [HLM.out]; exact h6) HTT.out)
              go_wp2_with fail
              go_loop [9, 10] (fun x i => ∃ j : Nat, 1 ≤ j ∧ j ≤ 6 ∧ i = .int .i64 j ∧ x = .int .i64 (val ((L.drop (a + 1)).take (j - 1)) : Nat)) (fun _ i => 6 - (intOf i).toNat)
              case atStart => exact ⟨1, by omega, by omega, rfl, rfl⟩
              case round =>
                obtain ⟨j, hj1, hj6, rfl, rfl⟩ := hrel
                by_cases hj : j < 6
                · have hi : a + j < L.length := by rw [HLM.out]; omega
                  have hcj := HCL.out (a + j) _ (bb_at L (a + j) hi)
                  have hv : val ((L.drop (a + 1)).take (j + 1 - 1)) = 2 * val ((L.drop (a + 1)).take (j - 1)) + (L[a + j]).toNat := by
                    rw [show j + 1 - 1 = (j - 1) + 1 by omega, List.take_add_one, List.getElem?_drop, show a + 1 + (j - 1) = a + j by omega, List.getElem?_eq_getElem hi]
                    exact val_snoc _ _
                  have hx : val ((L.drop (a + 1)).take (j - 1)) < 256 := by
                    have h1 := val_lt ((L.drop (a + 1)).take (j - 1))
                    have h2 : ((L.drop (a + 1)).take (j - 1)).length ≤ 8 := by rw [List.length_take]; omega
                    have h3 : 2 ^ ((L.drop (a + 1)).take (j - 1)).length ≤ 2 ^ 8 := Nat.pow_le_pow_right (by omega) h2
                    omega
                  have hbit : (L[a + j]).toNat ≤ 1 := by cases L[a + j] <;> decide
                  have HV := Lib.hid hv
                  generalize (L[a + j]).toNat = bt at *
                  clear hv hi
                  generalize val ((L.drop (a + 1)).take (j - 1)) = x at *
                  have hi0 : (0 : Int) ≤ (a : Int) + (j : Int) := by omega
                  have hil : (a : Int) + (j : Int) < (M : Int) := by omega
                  go_wp2
                  go_roundw
                  case rel =>
                    refine ⟨j + 1, by omega, by omega, by go_num, ?_⟩
                    rw [HV.out]
                    go_num
                  case measure => simp [intOf]; omega
                · have hje : j = 6 := by omega
                  subst hje
                  clear hj hj1 hj6
                  have hz32 : val ((L.drop (a + 1)).take (6 - 1)) < 32 := by
                    have h1 := val_lt ((L.drop (a + 1)).take (6 - 1))
                    have h2 : ((L.drop (a + 1)).take (6 - 1)).length ≤ 5 := by rw [List.length_take]; omega
                    have h3 : 2 ^ ((L.drop (a + 1)).take (6 - 1)).length ≤ 2 ^ 5 := Nat.pow_le_pow_right (by omega) h2
                    omega
                  have HX : Hid (dec L = (dec (L.drop (a + 6))).map ((s ++ [often.getD (val ((L.drop (a + 1)).take (6 - 1))) 0]) ++ ·)) := by
                    show _ = _
                    rw [HD.out, HN.out, Option.map_map]
                    congr 1
                    funext t
                    simp
                  clear HN HD
                  generalize val ((L.drop (a + 1)).take (6 - 1)) = z at *
                  have hz32' : (z : Int) < 32 := by omega
                  go_wp2_with (at_builtin; refine wpList_push rfl _ _ rfl wo.heap.size _ _ _ rfl hown rfl rfl (by omega) hsz2 ?_; intro v2 w2 hown2 hb2)
                  go_roundw
                  case rel =>
                    refine ⟨a + 6, s ++ [often.getD z 0], by omega, by simp; omega, by go_num, ?_, hbo.trans hb2, HX⟩
                    rw [bs_append, List.length_append, often_arr z hz32]
                    exact hown2
                  case measure => simp [intOf]; omega

            · have HF : Hid (dec L = none) := by
                show _ = _
                rw [HD.out, rd_left_bad L a a HLA.out (by rintro ⟨_, h⟩; rw [HLM.out] at h; omega) (by rw [HLM.out]; omega) (Nat.le_refl _) HLA.out HTT.out]
                rfl
              clear HD
              go_wp2_with fail
              go_loop [8] (fun i => i = .int .i64 (a : Nat)) (fun _ => 0)
              case atStart => rfl
              case round =>
                subst hrel
                go_wp2
                go_ret2
                exact ⟨by rw [HLU.out, HF.out]; rfl, hb.trans (hbo.mono hsz)⟩
          | true =>
            have hca1 : wr.cell? ⟨b0, off + a, none⟩ = some (.int .u8 1) := hca
            have HTT : Hid (L[a]'HLA.out = true) := hT
            clear hca hT hla
            by_cases h9 : a + 9 ≤ M
            · go_wp2_with fail
              go_loop [11, 12] (fun x i => ∃ j : Nat, 1 ≤ j ∧ j ≤ 9 ∧ i = .int .i64 j ∧ x = .int .i64 (val ((L.drop (a + 1)).take (j - 1)) : Nat)) (fun _ i => 9 - (intOf i).toNat)
              case atStart => exact ⟨1, by omega, by omega, rfl, rfl⟩
              case round =>
                obtain ⟨j, hj1, hj6, rfl, rfl⟩ := hrel
                by_cases hj : j < 9
                · have hi : a + j < L.length := by rw [HLM.out]; omega
                  have hcj := HCL.out (a + j) _ (bb_at L (a + j) hi)
                  have hv : val ((L.drop (a + 1)).take (j + 1 - 1)) = 2 * val ((L.drop (a + 1)).take (j - 1)) + (L[a + j]).toNat := by
                    rw [show j + 1 - 1 = (j - 1) + 1 by omega, List.take_add_one, List.getElem?_drop, show a + 1 + (j - 1) = a + j by omega, List.getElem?_eq_getElem hi]
                    exact val_snoc _ _
                  have hx : val ((L.drop (a + 1)).take (j - 1)) < 256 := by
                    have h1 := val_lt ((L.drop (a + 1)).take (j - 1))
                    have h2 : ((L.drop (a + 1)).take (j - 1)).length ≤ 8 := by rw [List.length_take]; omega
                    have h3 : 2 ^ ((L.drop (a + 1)).take (j - 1)).length ≤ 2 ^ 8 := Nat.pow_le_pow_right (by omega) h2
                    omega
                  have hbit : (L[a + j]).toNat ≤ 1 := by cases L[a + j] <;> decide
                  have HV := Lib.hid hv
                  generalize (L[a + j]).toNat = bt at *
                  clear hv hi
                  generalize val ((L.drop (a + 1)).take (j - 1)) = x at *
                  have hi0 : (0 : Int) ≤ (a : Int) + (j : Int) := by omega
                  have hil : (a : Int) + (j : Int) < (M : Int) := by omega
                  go_wp2
                  go_roundw
                  case rel =>
                    refine ⟨j + 1, by omega, by omega, by go_num, ?_⟩
                    rw [HV.out]
                    go_num
                  case measure => simp [intOf]; omega
                · have hje : j = 9 := by omega
                  subst hje
                  clear hj hj1 hj6
                  have hz256 : val ((L.drop (a + 1)).take (9 - 1)) < 256 := by
                    have h1 := val_lt ((L.drop (a + 1)).take (9 - 1))
                    have h2 : ((L.drop (a + 1)).take (9 - 1)).length ≤ 8 := by rw [List.length_take]; omega
                    have h3 : 2 ^ ((L.drop (a + 1)).take (9 - 1)).length ≤ 2 ^ 8 := Nat.pow_le_pow_right (by omega) h2
                    omega
                  obtain ⟨cc, hcc⟩ : ∃ cc, UInt8.ofNat (val ((L.drop (a + 1)).take (9 - 1))) = cc := ⟨_, rfl⟩
                  have hz : val ((L.drop (a + 1)).take (9 - 1)) = cc.toNat := by
                    rw [← hcc, UInt8.toNat_ofNat']
                    omega
                  have HBAD : Hid (0 ≤ oidx cc → dec L = none) := by
                    intro hi
                    rw [HD.out, rd_bad L a (by rw [HLM.out]; exact h9) HTT.out (by rw [show (8 : Nat) = 9 - 1 from rfl, hcc]; exact hi)]
                    rfl
                  have HRARE : Hid (¬ 0 ≤ oidx cc → dec L = (dec (L.drop (a + 9))).map ((s ++ [cc]) ++ ·)) := by
                    intro hi
                    rw [HD.out, rd_rare L a (by rw [HLM.out]; exact h9) HTT.out (by rw [show (8 : Nat) = 9 - 1 from rfl, hcc]; exact hi), show UInt8.ofNat (val ((L.drop (a + 1)).take 8)) = cc from hcc, Option.map_map]
                    congr 1
                    funext t
                    simp
                  have HCH := Lib.hid (rfl : (cc.toNat : Int) = (cc.toNat : Int))
                  rw [hz]
                  clear HD hcc hz hz256
                  have hcn : cc.toNat < 256 := cc.toNat_lt
                  by_cases hi : 0 ≤ oidx cc
                  · obtain ⟨y, hy⟩ := Int.eq_ofNat_of_zero_le hi
                    have HF := Lib.hid (HBAD.out hi)
                    have HC : Hid (∀ W : World, Calls Tryd.prog 74 #[.int .u8 (cc.toNat : Int)] W fun e w' => e = .returned (.int .i64 (y : Int)) ∧ W = w') := fun W => roften_k cc (y : Int) hy W
                    clear hi hy HBAD HRARE
                    go_wp2_with fail
                    refine (HC.out _).mono ?_
                    rintro e w' ⟨rfl, rfl⟩
                    go_wp2
                    go_ret2
                    exact ⟨by rw [HLU.out, HF.out]; rfl, hb.trans (hbo.mono hsz)⟩
                  · have hm1 : oidx cc = -1 := by have := (oidx_bounds cc).1; omega
                    have HX := Lib.hid (HRARE.out hi)
                    have HC : Hid (∀ W : World, Calls Tryd.prog 74 #[.int .u8 (cc.toNat : Int)] W fun e w' => e = .returned (.int .i64 (-1)) ∧ W = w') := fun W => roften_k cc (-1) hm1 W
                    clear hi hm1 HBAD HRARE
                    go_wp2_with fail
                    refine (HC.out _).mono ?_
                    rintro e w' ⟨rfl, rfl⟩
                    go_wp2_with (at_builtin; refine wpList_push rfl _ _ rfl wo.heap.size _ _ _ rfl hown rfl rfl (by omega) hsz2 ?_; intro v2 w2 hown2 hb2)
                    go_roundw
                    case rel =>
                      refine ⟨a + 9, s ++ [cc], by omega, by simp; omega, by go_num, ?_, hbo.trans hb2, HX⟩
                      rw [bs_append, List.length_append]
                      exact hown2
                    case measure => simp [intOf]; omega

            · by_cases h7 : 7 < M - a
              · have HF : Hid (dec L = none) := by
                  show _ = _
                  rw [HD.out, rd_long L a HLA.out (by rw [HTT.out]; simp) (fun h => absurd h.2 (by rw [HLM.out]; omega)) (by rw [HLM.out]; omega)]
                  rfl
                clear HD
                go_wp2
                go_ret2
                exact ⟨by rw [HLU.out, HF.out]; rfl, hb.trans (hbo.mono hsz)⟩
              · go_wp2_with fail
                go_loop [8] (fun i => ∃ m : Nat, a ≤ m ∧ m ≤ M ∧ i = .int .i64 (m : Nat) ∧ Hid (∀ q, a ≤ q → q < m → L[q]? = some true)) (fun i => M - (intOf i).toNat)
                case atStart => exact ⟨a, Nat.le_refl _, ha, rfl, fun q h1 h2 => absurd h2 (by omega)⟩
                case round =>
                  obtain ⟨m, ham, hmM, rfl, HQ⟩ := hrel
                  clear hca1
                  by_cases hm : m < M
                  · have hlm : m < L.length := by rw [HLM.out]; exact hm
                    obtain ⟨bm, hTm⟩ : ∃ bm, L[m]'hlm = bm := ⟨_, rfl⟩
                    have hcm : wr.cell? ⟨b0, off + m, none⟩ = some (.int .u8 ((bm.toNat : Nat) : Int)) := by
                      rw [← hTm]
                      exact HCL.out m _ (bb_at L m hlm)
                    cases bm with
                    | false =>
                      have hcm0 : wr.cell? ⟨b0, off + m, none⟩ = some (.int .u8 0) := hcm
                      have HF : Hid (dec L = none) := by
                        show _ = _
                        rw [HD.out, rd_left_bad L a m HLA.out (by rw [HTT.out]; simp) (by rw [HLM.out]; omega) ham hlm hTm]
                        rfl
                      clear hcm hTm hlm HD
                      go_wp2
                      go_ret2
                      exact ⟨by rw [HLU.out, HF.out]; rfl, hb.trans (hbo.mono hsz)⟩
                    | true =>
                      have hcm1 : wr.cell? ⟨b0, off + m, none⟩ = some (.int .u8 1) := hcm
                      have HQ2 : Hid (∀ q, a ≤ q → q < m + 1 → L[q]? = some true) := by
                        intro q h1 h2
                        by_cases e : q = m
                        · subst e
                          rw [List.getElem?_eq_getElem hlm, hTm]
                        · exact HQ.out q h1 (by omega)
                      clear hcm hTm hlm
                      go_wp2
                      go_roundw
                      case rel => exact ⟨m + 1, by omega, by omega, by go_num, HQ2⟩
                      case measure => simp [intOf]; omega
                  · have hmE : m = M := by omega
                    subst hmE
                    have HX : Hid (dec L = (dec (L.drop m)).map (s ++ ·)) := by
                      show _ = _
                      rw [HD.out, rd_left L a (by rw [HLM.out]; omega) (fun q h1 h2 => HQ.out q h1 (by rw [HLM.out] at h2; exact h2)), rd_left L m (by rw [HLM.out]; omega) (fun q h1 h2 => absurd h2 (by rw [HLM.out]; omega))]
                    clear HD HQ
                    go_wp2
                    go_roundw
                    case rel => exact ⟨m, s, Nat.le_refl _, by omega, rfl, hown, hbo, HX⟩
                    case measure => simp [intOf]; omega
        · have haE : a = M := by omega
          subst haE
          obtain ⟨A2, c2, rfl, hc2, hr2⟩ := isBytes_of_own hown
          have k1 := run_str hr2 c2
          have e : dec L = some s := by
            rw [HD.out, List.drop_of_length_le (by rw [HLM.out]; exact Nat.le_refl _), dec_ones (by decide) rfl]
            simp
          have HE := Lib.hid e
          clear e HD hr2 hc2 hown
          go_wp2
          go_ret2
          exact ⟨by rw [HLU.out, HE.out]; rfl, hb.trans (hbo.mono hsz)⟩
end Go.Proofs.YtkbbkamnmdeagaaDoor
