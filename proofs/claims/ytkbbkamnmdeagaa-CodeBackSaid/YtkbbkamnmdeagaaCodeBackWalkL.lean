/-
  The walk of the law CodeBack: it returns true, and nothing that was in memory turns. Condition: the texts and the bytes are no longer than the reach of the form.
-/
import Derived.Test.YtkbbkamnmdeagaaDecL
namespace Go.Proofs.Ytkbbkamnmdeagaa
open Go.RowKit

theorem encode_gave (l x : List UInt8) (hx : enc l = x) (hl : l.length ≤ 281474976710656) (hl9 : (encBits l).length ≤ 1400000000000000) (w : World) :
    Calls Try.prog 8 #[.string ⟨l.toArray⟩] w fun e w' => ∃ A c, e = .returned (.slice A x.length c) ∧ Gave w w' x A c := by
  refine (encode_any l hl hl9 w).mono ?_
  rintro e w' ⟨v, he, hown, hb⟩
  rw [hx] at hown
  obtain ⟨A, c, rfl, hg⟩ := gave_of_own hown hb
  exact ⟨A, c, he, hg⟩
theorem decode_ok (l s : List UInt8) (h : decode l = some s) (hl : l.length ≤ 160000000000000) (A : Option Addr) (n c : Nat) (hn : n = l.length) (w : World) (hr : Reads w w.heap.size 1 A l.length (bs l)) :
    Calls Try.prog 9 #[.slice A n c] w fun e w' => e = .returned (.tuple #[.string ⟨s.toArray⟩, .nilIface]) ∧ Below w.heap.size w w' := by
  refine (decode_any l hl A n c hn w hr).mono ?_
  rintro e w' ⟨he, hb⟩
  have e1 : decS l = s := by simp [decS, h]
  have e2 : decE l = 0 := by simp [decE, h]
  rw [e1, e2] at he
  exact ⟨he, hb⟩
theorem decode_err (l : List UInt8) (h : decode l = none) (hl : l.length ≤ 160000000000000) (A : Option Addr) (n c : Nat) (hn : n = l.length) (w : World) (hr : Reads w w.heap.size 1 A l.length (bs l)) :
    Calls Try.prog 9 #[.slice A n c] w fun e w' => e = .returned (.tuple #[.string ⟨#[]⟩, .iface 23 (.int .i64 2)]) ∧ Below w.heap.size w w' := by
  refine (decode_any l hl A n c hn w hr).mono ?_
  rintro e w' ⟨he, hb⟩
  have e1 : decS l = [] := by simp [decS, h]
  have e2 : decE l = 2 := by simp [decE, h]
  rw [e1, e2] at he
  exact ⟨he, hb⟩
theorem cbits_eq (l : List UInt8) (z : Int) (hz : ((encBits l).length : Int) = z) (hl : l.length ≤ 281474976710656) (w : World) :
    Calls Try.prog 10 #[.string ⟨l.toArray⟩] w fun e w' => e = .returned (.int .i64 z) ∧ Below w.heap.size w w' := by
  rw [← hz]
  exact cbits_any l hl w
theorem encBits_ge (s : List UInt8) : 6 * s.length ≤ (encBits s).length := by
  induction s with
  | nil => simp [encBits]
  | cons c s ih =>
    rw [encBits_cons, List.length_append, cw_length, List.length_cons]
    split <;> omega
theorem enc_e : enc [101] = [3] := by
  rw [enc, show padded (encBits [101]) = [false, false, false, false, false, false, true, true] by decide, pack_small (by decide) (by decide)]
  decide

set_option maxRecDepth 100000 in
set_option maxHeartbeats 2000000 in
theorem codeBack_walk (s t l : List UInt8) (A : Option Addr) (c : Nat) (w : World) (hs : s.length ≤ 140737488351232) (ht : t.length ≤ 140737488351232) (hl : l.length ≤ 140737488351232) (hr : Reads w w.heap.size 1 A l.length (bs l)) :
    Calls Try.prog 4 #[.string ⟨s.toArray⟩, .string ⟨t.toArray⟩, .slice A l.length c] w fun e w' => e = .returned (.bool true) ∧ Below w.heap.size w w' := by
  have hes := encBits_le s
  have hel := enc_length s
  have hxl : (enc s).length ≤ 160000000000000 := by omega
  have HEL := Lib.hid hel
  have HK := Lib.hid (show ((encBits (s ++ t)).length : Int) = ((encBits s).length : Int) + ((encBits t).length : Int) by rw [encBits_append, List.length_append]; omega)
  have het := encBits_le t
  clear hel
  go_enter Try.func4, Try.ntmps4
  go_wp2_with fail
  refine (encode_gave [101] [3] enc_e (by decide) (by decide) w).mono ?_
  rintro e w1 ⟨A1, c1, rfl, hc1, hr1, hb1⟩
  obtain ⟨b1, o1, rfl, hB1, hcl1⟩ := hr1.form (by decide)
  have f0 : w1.cell? ⟨b1, o1, none⟩ = some (.int .u8 3) := hcl1 0 _ rfl
  simp only [List.length_cons, List.length_nil] at *
  clear hr1 hcl1
  go_wp2_with fail
  refine (encode_gave s (enc s) rfl (by omega) (by omega) w1).mono ?_
  rintro e w2 ⟨A2, c2, rfl, hc2, hr2, hb2⟩
  clear f0
  go_wp2_with fail
  refine (decode_ok (enc s) s (decode_enc s) hxl A2 _ c2 rfl w2 hr2).mono ?_
  rintro e w3 ⟨rfl, hb3⟩
  go_wp2_with fail
  refine (cbits_any s (by omega) w3).mono ?_
  rintro e w4 ⟨rfl, hb4⟩
  go_wp2_with fail
  refine (cbits_any t (by omega) w4).mono ?_
  rintro e w5 ⟨rfl, hb5⟩
  go_wp2_with fail
  have ecat : ({ data := s.toArray } ++ { data := t.toArray } : ByteArray) = ⟨(s ++ t).toArray⟩ := ByteArray.mk_append_mk s t
  rw [ecat]
  clear ecat
  refine (cbits_eq (s ++ t) _ HK.out (by rw [List.length_append]; omega) w5).mono ?_
  rintro e w6 ⟨rfl, hb6⟩
  have HA : Hid (Below w.heap.size w w6) := by
    have h1 := hb1.size
    have h2 := hb2.size
    have h3 := hb3.size
    have h4 := hb4.size
    have h5 := hb5.size
    exact hb1.trans ((hb2.mono h1).trans ((hb3.mono (by omega)).trans ((hb4.mono (by omega)).trans ((hb5.mono (by omega)).trans (hb6.mono (by omega))))))
  have HR6 := Lib.hid ((hr.below HA.out).more HA.out.size)
  have hsz6 := HA.out.size
  have hel := HEL.out
  have hb9 : (encBits s).length ≤ 1266637395197952 := by omega
  have hb9t : (encBits t).length ≤ 1266637395197952 := by omega
  have HL1 : Hid ((enc s).length = ((encBits s).length + 7) / 8) := hel
  clear hb1 hb2 hb3 hb4 hb5 hb6 hr2 hr hel hes het hxl HK HEL
  generalize (enc s).length = ls at *
  generalize (encBits s).length = es at *
  generalize (encBits t).length = et at *
  obtain rfl : ls = (es + 7) / 8 := HL1.out
  clear HL1
  cases hd : decode l with
  | none =>
    have HD := Lib.hid hd
    clear hd
    go_wp2_with fail
    refine (decode_err l HD.out (by omega) A _ c rfl w6 HR6.out).mono ?_
    rintro e w7 ⟨rfl, hb7⟩
    go_wp2
    go_ret
    exact ⟨rfl, HA.out.trans (hb7.mono hsz6)⟩
  | some v =>
    have HD := Lib.hid hd
    have hev := enc_decode l v hd
    have hv2 : v.length ≤ 281474976710656 ∧ (encBits v).length ≤ 1400000000000000 := by
      have h1 := encBits_ge v
      have h2 := enc_length v
      rw [hev] at h2
      omega
    have HV2 := Lib.hid hv2
    clear hv2
    have HEV := Lib.hid hev
    clear hd hev
    go_wp2_with fail
    refine (decode_ok l v HD.out (by omega) A _ c rfl w6 HR6.out).mono ?_
    rintro e w7 ⟨rfl, hb7⟩
    clear hb9 hb9t
    go_wp2_with fail
    refine (encode_gave v l HEV.out HV2.out.1 HV2.out.2 w7).mono ?_
    rintro e w8 ⟨A3, c3, rfl, hc3, hr3, hb8⟩
    have hb78 := hb7.trans (hb8.mono hb7.size)
    have k1 := run_str hr3 c3
    have k2 := run_str (HR6.out.below hb78) c
    have HF := Lib.hid (HA.out.trans (hb78.mono hsz6))
    clear hb7 hb8 hb78 hr3
    go_wp2
    go_ret
    exact ⟨rfl, HF.out⟩
end Go.Proofs.Ytkbbkamnmdeagaa
