/- The contracts of the writers of layer wire and of the numbers of its reference; conditions: sizes below 2^47. -/
import Derived.Test.YtgfbbbbiaikacaaA2
namespace Go.Proofs.Ytgfbbbbiaikacaa.A
open Go.RowKit Go.Proofs.YtgfbbbbiaikacaaW.PrintWords Go.Proofs.YtgfbbbbiaikacaaW.PrintLast Go.Proofs.YtgfbbbbiaikacaaW.PrintMore

theorem ret_int {k : IntKind} {a b : Int} (h : a = b) : Ending.returned (.int k a) = .returned (.int k b) := by rw [h]
theorem PutText_calls (A : Option Addr) (c : Nat) (l : List Int) (A2 : Option Addr) (c2 : Nat) (ss : List ByteArray) (w : World) (hr : Rd w A l) (hr2 : RdS w A2 ss) (hl : l.length + bulkS ss ≤ 140737488355328) :
    Calls Try.prog 18 #[.slice A l.length c, .slice A2 ss.length c2] w fun e w' => ∃ v, e = .returned v ∧ Own w' w.heap.size v (l ++ textsB ss) ∧ Below w.heap.size w w' := by
  have HR := Lib.hid hr
  have HR2 := Lib.hid hr2
  clear hr hr2
  go_enter Try.func18, Try.ntmps18
  go_wp2_with (first | (go_at_call 25; refine (fresh_calls A c l 16 _ HR.out (by omega) (by omega) (by omega)).mono ?_; rintro e w1 ⟨v1, rfl, ho, hb⟩; replace ho := Lib.hid ho; replace hb := Lib.hid hb) | (go_at_call 30; refine (texts_calls _ l A2 c2 ss w _ ho.out hb.out HR2.out hl).mono ?_; rintro e w2 ⟨v2, rfl, ho2, hb2⟩; replace ho2 := Lib.hid ho2; replace hb2 := Lib.hid hb2))
  go_ret
  exact ⟨_, rfl, ho2.out, hb2.out⟩

theorem PutList_calls (A : Option Addr) (c : Nat) (l : List Int) (A2 : Option Addr) (c2 : Nat) (ss : List ByteArray) (w : World) (hr : Rd w A l) (hr2 : RdS w A2 ss) (hl : l.length + bulkS ss + 16 ≤ 140737488355328) :
    Calls Try.prog 19 #[.slice A l.length c, .slice A2 ss.length c2] w fun e w' => ∃ v, e = .returned v ∧ Own w' w.heap.size v (l ++ (enc ss.length ++ textsB ss)) ∧ Below w.heap.size w w' := by
  have HR := Lib.hid hr
  have HR2 := Lib.hid hr2
  clear hr hr2
  have hbl := bulk_len ss
  have hel := enc_len ss.length
  go_enter Try.func19, Try.ntmps19
  go_wp2_with (first | (go_at_call 25; refine (fresh_calls A c l 16 _ HR.out (by omega) (by omega) (by omega)).mono ?_; rintro e w1 ⟨v1, rfl, ho, hb⟩; replace ho := Lib.hid ho; replace hb := Lib.hid hb) | (go_at_call 24; refine (short_calls _ l ss.length w _ ho.out hb.out (by omega) (by omega) (by omega)).mono ?_; rintro e w2 ⟨v2, rfl, ho2, hb2⟩; replace ho2 := Lib.hid ho2; replace hb2 := Lib.hid hb2) | (go_at_call 30; refine (texts_calls _ (l ++ enc ss.length) A2 c2 ss w _ ho2.out hb2.out HR2.out (by rw [List.length_append]; omega)).mono ?_; rintro e w3 ⟨v3, rfl, ho3, hb3⟩; replace ho3 := Lib.hid ho3; replace hb3 := Lib.hid hb3))
  go_ret
  exact ⟨_, rfl, by rw [← List.append_assoc]; exact ho3.out, hb3.out⟩

def boolB : Bool → List Int
  | true => [1]
  | false => [0]
theorem PutBool_calls (A : Option Addr) (c : Nat) (l : List Int) (b : Bool) (w : World) (hr : Rd w A l) (hl : l.length + 16 ≤ 140737488355328) :
    Calls Try.prog 17 #[.slice A l.length c, .bool b] w fun e w' => ∃ v, e = .returned v ∧ Own w' w.heap.size v (l ++ boolB b) ∧ Below w.heap.size w w' := by
  have HR := Lib.hid hr
  clear hr
  cases b
  · go_enter Try.func17, Try.ntmps17
    go_wp2_with (first | (go_at_call 25; refine (fresh_calls A c l 1 _ HR.out (by omega) (by omega) (by omega)).mono ?_; rintro e w1 ⟨v1, rfl, ho, hb⟩; replace ho := Lib.hid ho; replace hb := Lib.hid hb) | (at_builtin; go_must (refine app1 rfl (.tmp 11) (.tmp 12) rfl v1 l _ rfl rfl ho hb hb.out.size (by omega) ?_); intro v2 w2 ho2 hb2))
    go_ret
    exact ⟨_, rfl, ho2.out, hb2.out⟩
  · go_enter Try.func17, Try.ntmps17
    go_wp2_with (first | (go_at_call 25; refine (fresh_calls A c l 1 _ HR.out (by omega) (by omega) (by omega)).mono ?_; rintro e w1 ⟨v1, rfl, ho, hb⟩; replace ho := Lib.hid ho; replace hb := Lib.hid hb) | (at_builtin; go_must (refine app1 rfl (.tmp 7) (.tmp 8) rfl v1 l _ rfl rfl ho hb hb.out.size (by omega) ?_); intro v2 w2 ho2 hb2))
    go_ret
    exact ⟨_, rfl, ho2.out, hb2.out⟩

theorem xor_ones (a : Nat) (h : a < 18446744073709551616) : a ^^^ 18446744073709551615 = 18446744073709551615 - a := by
  have h1 : (BitVec.ofNat 64 a ^^^ BitVec.allOnes 64).toNat = (~~~(BitVec.ofNat 64 a)).toNat := by rw [BitVec.xor_allOnes]
  rw [BitVec.toNat_xor, BitVec.toNat_not, BitVec.toNat_ofNat, BitVec.toNat_allOnes, Nat.mod_eq_of_lt (by omega)] at h1
  exact h1
def zig (n : Int) : Int := if 0 ≤ n then 2 * n else 2 * (-(n + 1)) + 1
theorem zig_range (n : Int) (h0 : -9223372036854775808 ≤ n) (h1 : n ≤ 9223372036854775807) : 0 ≤ zig n ∧ zig n ≤ 18446744073709551615 := by
  unfold zig
  split <;> omega
theorem zig_bits (n : Int) (h0 : -9223372036854775808 ≤ n) (h1 : n ≤ 9223372036854775807) :
    bits .xor .u64 (IntKind.u64.wrap (IntKind.u64.wrap n * 2)) (IntKind.u64.wrap (n / 9223372036854775808)) = zig n := by
  by_cases h : 0 ≤ n
  · obtain ⟨m, rfl⟩ := Int.eq_ofNat_of_zero_le h
    have e1 : IntKind.u64.wrap (IntKind.u64.wrap (m : Int) * 2) = ((2 * m : Nat) : Int) := by rw [IntKind.wrap_u64, IntKind.wrap_u64]; omega
    have e2 : IntKind.u64.wrap ((m : Int) / 9223372036854775808) = ((0 : Nat) : Int) := by rw [IntKind.wrap_u64]; omega
    rw [e1, e2, bits_xor_u64_nat _ _ (by omega) (by omega), Nat.xor_zero, zig, if_pos h]
    omega
  · obtain ⟨m, hm⟩ : ∃ m : Nat, (m : Int) = 2 * n + 18446744073709551616 := ⟨(2 * n + 18446744073709551616).toNat, by omega⟩
    have e1 : IntKind.u64.wrap (IntKind.u64.wrap n * 2) = (m : Int) := by rw [IntKind.wrap_u64, IntKind.wrap_u64]; omega
    have e2 : IntKind.u64.wrap (n / 9223372036854775808) = ((18446744073709551615 : Nat) : Int) := by rw [IntKind.wrap_u64]; omega
    rw [e1, e2, bits_xor_u64_nat _ _ (by omega) (by omega), xor_ones _ (by omega), zig, if_neg h]
    omega
theorem PutInt_calls (A : Option Addr) (c : Nat) (l : List Int) (n : Int) (w : World) (hr : Rd w A l) (h0 : -9223372036854775808 ≤ n) (h1 : n ≤ 9223372036854775807) (hl : l.length + 16 ≤ 140737488355328) :
    Calls Try.prog 16 #[.slice A l.length c, .int .i64 n] w fun e w' => ∃ v, e = .returned v ∧ Own w' w.heap.size v (l ++ enc (zig n)) ∧ Below w.heap.size w w' := by
  have HR := Lib.hid hr
  clear hr
  have HZ := Lib.hid (zig_bits n h0 h1)
  have hz := zig_range n h0 h1
  go_enter Try.func16, Try.ntmps16
  go_wp2_with (first | (go_at_call 25; refine (fresh_calls A c l 10 _ HR.out (by omega) (by omega) (by omega)).mono ?_; rintro e w1 ⟨v1, rfl, ho, hb⟩; replace ho := Lib.hid ho; replace hb := Lib.hid hb) | (go_at_call 24; go_must (rw [HZ.out]); go_must (refine (short_calls _ l (zig n) w _ ho.out hb.out hz.1 hz.2 hl).mono ?_); rintro e w2 ⟨v2, rfl, ho2, hb2⟩; replace ho2 := Lib.hid ho2; replace hb2 := Lib.hid hb2))
  go_ret
  exact ⟨_, rfl, ho2.out, hb2.out⟩

/-- Size -/
theorem Size_calls (n : Int) (w : World) (h0 : 0 ≤ n) (h1 : n ≤ 18446744073709551615) :
    Calls Try.prog 8 #[.int .u64 n] w fun e w' => e = .returned (.int .i64 (enc n).length) ∧ w = w' := by
  go_enter Try.func8, Try.ntmps8
  go_wp2_with fail
  go_loop [0, 3] (fun i s => ∃ (q : Int) (k : Nat) (d : Nat), i = .int .u64 q ∧ 0 ≤ q ∧ q < 128 ^ (k + 1) ∧ d + k = 10 ∧ s = .int .i64 (d : Int) ∧ Hid ((encN k q).length + d = (enc n).length + 1)) (fun i _ => (intOf i).toNat)
  case atStart => exact ⟨n, 9, 1, rfl, h0, by omega, by omega, rfl, rfl⟩
  case round =>
    obtain ⟨q, k, d, rfl, q0, q1, hkd, rfl, hE⟩ := hrel
    by_cases hq : q < 128
    · go_wp2_with fail
      go_ret
      have h : (encN k q).length = 1 := by unfold encN; split <;> simp_all
      have h2 := hE.out
      exact ⟨ret_int (by omega), rfl⟩
    · go_wp2_with fail
      cases k with
      | zero => exact absurd q1 (by omega)
      | succ k =>
        refine ⟨⟨q / 128, k, d + 1, rfl, by omega, by rw [Int.pow_succ] at q1; omega, by omega, by go_num, ?_⟩, by simp [intOf]; omega⟩
        have h := hE.out
        rw [encN, if_neg hq] at h
        show _ = _
        simp only [List.length_cons] at h
        omega

theorem enc_step (k : Nat) (q : Int) (hq : ¬ q < 128) : encN (k + 1) q = (q % 128 + 128) :: encN k (q / 128) := by rw [encN, if_neg hq]
set_option maxHeartbeats 400000 in
theorem Uint_calls (n : Int) (w : World) (h0 : 0 ≤ n) (h1 : n ≤ 18446744073709551615) :
    Calls Try.prog 9 #[.int .u64 n] w fun e w' => ∃ v', e = .returned v' ∧ Own w' w.heap.size v' (enc n) ∧ Below w.heap.size w w' := by
  go_enter Try.func9, Try.ntmps9
  go_wp2_with fail
  go_loopw [0, 3] (fun i v wr => ∃ (xs : List Int) (q : Int) (k : Nat), i = .int .u64 q ∧ 0 ≤ q ∧ q ≤ 18446744073709551615 ∧ q < 128 ^ (k + 1) ∧ xs.length + k = 9 ∧ Hid (xs ++ encN k q = enc n) ∧ Hid (Own wr w.heap.size v xs) ∧ Hid (Below w.heap.size w wr)) (fun i _ _ => (intOf i).toNat)
  case atStart => exact ⟨[], n, 9, rfl, h0, h1, by omega, rfl, rfl, own_nil _ _ _ _, Below.refl _ _⟩
  case round =>
    obtain ⟨xs, q, k, rfl, q0, qm, q1, k9, hE, hO, hB⟩ := hrel
    have hs := hB.out.size
    by_cases hq : q < 128
    · go_wp2_with (at_builtin; go_must (refine app1 rfl (.tmp 15) (.tmp 18) rfl u3 xs _ rfl rfl hO hB hs (by omega) ?_); intro v1 w1 ho hb)
      go_ret
      exact ⟨_, rfl, by rw [← hE.out]; have h := ho.out; unfold encN; split <;> simp_all, hb.out⟩
    · go_wp2_with (at_builtin; go_must (refine app1 rfl (.tmp 6) (.tmp 11) rfl u3 xs _ rfl rfl hO hB hs (by omega) ?_); intro v1 w1 ho hb)
      cases k with
      | zero => exact absurd q1 (by omega)
      | succ k =>
        refine ⟨⟨_, q / 128, k, rfl, by omega, by omega, by rw [Int.pow_succ] at q1; omega, by simp; omega, ?_, ho, hb⟩, by simp [intOf]; omega⟩
        have hE := hE.out
        rw [encN, if_neg hq] at hE
        show _ = _
        rw [← hE, List.append_assoc]
        rfl

theorem Int_calls (n : Int) (w : World) (h0 : -9223372036854775808 ≤ n) (h1 : n ≤ 9223372036854775807) :
    Calls Try.prog 20 #[.int .i64 n] w fun e w' => ∃ v', e = .returned v' ∧ Own w' w.heap.size v' (enc (zig n)) ∧ Below w.heap.size w w' := by
  have hz := zig_range n h0 h1
  by_cases h : 0 ≤ n
  · have e1 : zig n = 2 * n := by rw [zig, if_pos h]
    rw [e1] at hz ⊢
    go_enter Try.func20, Try.ntmps20
    go_wp2_with (go_at_call 9; go_must (refine (Uint_calls (2 * n) _ hz.1 hz.2).mono ?_); rintro e w1 ⟨v1, rfl, ho, hb⟩; replace ho := Lib.hid ho; replace hb := Lib.hid hb)
    go_ret
    exact ⟨_, rfl, ho.out, hb.out⟩
  · have e1 : zig n = 2 * -(n + 1) + 1 := by rw [zig, if_neg h]
    rw [e1] at hz ⊢
    go_enter Try.func20, Try.ntmps20
    go_wp2_with (go_at_call 9; go_must (refine (Uint_calls (2 * -(n + 1) + 1) _ hz.1 hz.2).mono ?_); rintro e w1 ⟨v1, rfl, ho, hb⟩; replace ho := Lib.hid ho; replace hb := Lib.hid hb)
    go_ret
    exact ⟨_, rfl, ho.out, hb.out⟩
end Go.Proofs.Ytgfbbbbiaikacaa.A
