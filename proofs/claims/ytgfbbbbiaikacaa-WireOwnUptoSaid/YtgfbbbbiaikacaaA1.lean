/- The contracts of fresh and short (layer wire): what they return and what they leave alone; conditions: sizes below 2^47. -/
import Derived.Test.YtgfbbbbiaikacaaPWirePutsx0
import Derived.Lib.Hide
import Derived.Outline
namespace Go.Proofs.Ytgfbbbbiaikacaa.A
open Go.RowKit Go.Proofs.YtgfbbbbiaikacaaW.PrintWords Go.Proofs.YtgfbbbbiaikacaaW.PrintLast Go.Proofs.YtgfbbbbiaikacaaW.PrintMore
theorem info5 : (Try.prog.info? 5).map (fun i => (i.zero, i.size, i.bytes)) = some (some (.int .u8 0), 1, 1) := by kernel_rfl

theorem size5 : (Try.prog.info? 5).map (·.size) = some 1 := by kernel_rfl
/-- make([]byte, m, c) -/
theorem made_own (W : World) (base : Nat) (m c : Nat) (hb : base ≤ W.heap.size) (hmc : m ≤ c) (hm : c ≤ 9223372036854775807) :
    (W.alloc (.cells (madeCells #[.int .u8 0] c) 5)).ownsRow base 5 1 (.slice (some ⟨W.heap.size, 0, none⟩) m c) m (nums .u8 (List.replicate m 0)) := by
  have hl : (madeCells #[Value.int .u8 0] c).toList = nums .u8 (List.replicate c 0) := by
    apply List.ext_getElem
    · simp [nums, madeCells]
    · intro i h1 h2
      simp [nums, madeCells, Nat.mod_one]
  refine ⟨by simp [nums], .inr ⟨W.heap.size, c, madeCells #[.int .u8 0] c, rfl, hb, by simpa using heap_alloc_new W _, hmc, by simpa [maxLen] using hm, by simp [size_madeCells], ?_⟩⟩
  rw [hl]
  simp [nums, List.take_replicate]
  omega

theorem make_run (m c : Nat) (hmc : m ≤ c) (hn : c ≤ 281474976710656) (W : World) :
    (Instr.makeSlice 23 (.int .i64 (m : Int)) (.int .i64 (c : Int))).run Try.prog W = .ok (.slice (some ⟨W.heap.size, 0, none⟩) m c) (W.alloc (.cells (madeCells #[.int .u8 0] c) 5)) := by
  obtain ⟨i0, hi, hzz⟩ := Option.map_eq_some_iff.1 info5
  simp only [Prod.mk.injEq] at hzz
  obtain ⟨hz0, hz1, hz2⟩ := hzz
  have h := run_make (P := Try.prog) W 23 5 i0 (.int .u8 0) Try.underlying23 hi hz0 .i64 .i64 (m : Int) (c : Int) (by omega) (by omega) (by rw [hz2]; omega) (by omega)
  rw [hz1, show (Value.int .u8 0).cells = #[.int .u8 0] from rfl] at h
  simpa using h

def Own (w : World) (base : Nat) (v : Value) (l : List Int) : Prop := w.ownsRow base 5 1 v l.length (nums .u8 l)
abbrev Rd (w : World) (A : Option Addr) (l : List Int) : Prop := ReadsInt w .u8 A l.length l

theorem fresh_calls (A : Option Addr) (c : Nat) (l : List Int) (m : Int) (w : World) (hr : Rd w A l) (h0 : 0 ≤ m) (h1 : m ≤ 64) (hl : l.length ≤ 140737488355328) :
    Calls Try.prog 25 #[.slice A l.length c, .int .i64 m] w fun e w' => ∃ v, e = .returned v ∧ Own w' w.heap.size v l ∧ Below w.heap.size w w' := by
  obtain ⟨m, rfl⟩ := Int.eq_ofNat_of_zero_le h0
  have hmk : ∀ W, (Instr.makeSlice 23 (.int .i64 (l.length : Int)) (.int .i64 ((l.length : Int) + (m : Int)))).run Try.prog W = _ := make_run l.length (l.length + m) (by omega) (by omega)
  have HR := Lib.hid hr
  clear hr
  go_enter Try.func25, Try.ntmps25
  go_wp2_with (first | ((with_reducible refine gate_builtin (b := .copy) (xs := #[.tmp 13, .tmp 14]) rfl ?_); go_loud (refine Kd.R_copy (enc := Value.int .u8) (h1 := fun _ => rfl) (0 : Int) (w0 := w) w.heap.size rfl (.tmp 13) (.tmp 14) 23 23 5 rfl Try.underlying23 size5 (.slice (some ⟨w.heap.size, 0, none⟩) l.length (l.length + m)) (List.replicate l.length 0) l A l.length c (fun _ => True) rfl rfl (Kd.R_of_own (by rw [List.length_replicate]; exact made_own w w.heap.size l.length (l.length + m) (Nat.le_refl _) (by omega) (by omega)) (fun _ _ => trivial)) (Kd.C_of_reads (d := (0 : Int)) (HR.out.below (below_alloc (Below.refl _ _) _))) (below_alloc (Below.refl _ _) _) (by simp) ?_); intro w1 ho hb hg; replace ho := Lib.hid ho))
  go_ret
  refine ⟨_, rfl, ?_, hb⟩
  have h := Kd.own_of_R ho.out
  simpa [Own, nums, encs] using h

section
variable {ops : Array Oper} {rest : List Oper} {o : Oper} {a : Act} {Q : Exit → Act → World → Prop}
/-- append(v, y), v of the call's own. -/
theorem app1 {w0 W : World} {B : Nat} (hgd : o.guard = none) (s x : Operand) (ho : o.op = .call { callee := .builtin .append, args := #[s, x], argTypes := #[23, 23] })
    (v : Value) (xs : List Int) (y : Int) (hs : a.eval s = v) (hx : a.eval x = .slice (some ⟨W.heap.size, 0, none⟩) 1 1)
    (HO : Hid (Own W B v xs)) (HB : Hid (Below B w0 W)) (hbase : B ≤ W.heap.size) (hl : xs.length + 1 ≤ 140737488355328)
    (h : ∀ v1 w1, Hid (Own w1 B v1 (xs ++ [y])) → Hid (Below B w0 w1) → wpList Try.prog ops Q rest (a.put o.dst v1) w1) :
    wpList Try.prog ops Q (o :: rest) a (W.alloc (.cells #[.int .u8 y] 5)) :=
  print_append_num B hgd s x 23 5 .u8 1 ho Try.underlying23 info5 (by omega) v xs y hs hx HO.out HB.out hbase (by omega) (fun v1 w1 h1 h2 _ _ => h v1 w1 h1 h2)
end
/-- a short number's bytes -/
def encN : Nat → Int → List Int
  | 0, n => [n]
  | k + 1, n => if n < 128 then [n] else (n % 128 + 128) :: encN k (n / 128)
def enc (n : Int) : List Int := encN 9 n
theorem encN_len (k : Nat) (n : Int) : (encN k n).length ≤ k + 1 := by
  induction k generalizing n with
  | zero => simp [encN]
  | succ k ih => unfold encN; split <;> simp; exact ih _
theorem or128 (x : Int) (h0 : 0 ≤ x) (h1 : x < 256) : Go.bits .or .u8 x 128 = x % 128 + 128 := by
  have h : ∀ y : Fin 256, Go.bits .or .u8 (y.val : Int) 128 = (y.val : Int) % 128 + 128 := by decide +kernel
  obtain ⟨y, rfl⟩ := Int.eq_ofNat_of_zero_le h0
  exact h ⟨y, by omega⟩

set_option maxHeartbeats 400000 in
theorem short_calls (v : Value) (l : List Int) (n : Int) (w0 w : World) (ho : Own w w0.heap.size v l) (hb : Below w0.heap.size w0 w) (h0 : 0 ≤ n) (h1 : n ≤ 18446744073709551615) (hl : l.length + 16 ≤ 140737488355328) :
    Calls Try.prog 24 #[v, .int .u64 n] w fun e w' => ∃ v', e = .returned v' ∧ Own w' w0.heap.size v' (l ++ enc n) ∧ Below w0.heap.size w0 w' := by
  have HO := Lib.hid ho
  have HB := Lib.hid hb
  clear ho hb
  go_enter Try.func24, Try.ntmps24
  go_wp2_with fail
  go_loopw [0, 1] (fun v i wr => ∃ (xs : List Int) (q : Int) (k : Nat), i = .int .u64 q ∧ 0 ≤ q ∧ q < 128 ^ (k + 1) ∧ k ≤ 9 ∧ Hid (xs ++ encN k q = l ++ enc n) ∧ Hid (Own wr w0.heap.size v xs) ∧ Hid (Below w0.heap.size w0 wr)) (fun _ i _ => (intOf i).toNat)
  case atStart => exact ⟨l, n, 9, rfl, h0, by omega, by omega, rfl, HO, HB⟩
  case round =>
    obtain ⟨xs, q, k, rfl, q0, q1, k9, hE, hO, hB⟩ := hrel
    have hs := hB.out.size
    have hlen : xs.length ≤ l.length + 10 := by
      have h := congrArg List.length hE.out
      simp only [List.length_append] at h
      have := encN_len 9 n
      unfold enc at h
      omega
    by_cases hq : q < 128
    · go_wp2_with (at_builtin; go_loud (refine app1 rfl (.tmp 15) (.tmp 18) rfl u0 xs _ rfl rfl hO hB hs (by omega) ?_); intro v1 w1 ho hb)
      go_ret
      exact ⟨_, rfl, by rw [← hE.out]; have h := ho.out; unfold encN; split <;> simp_all, hb.out⟩
    · go_wp2_with (at_builtin; go_loud (refine app1 rfl (.tmp 9) (.tmp 13) rfl u0 xs _ rfl rfl hO hB hs (by omega) ?_); intro v1 w1 ho hb)
      cases k with
      | zero => exact absurd q1 (by omega)
      | succ k =>
        refine ⟨⟨_, q / 128, k, rfl, by omega, by rw [Int.pow_succ] at q1; omega, by omega, ?_, ho, hb⟩, by simp [intOf]; omega⟩
        have hE := hE.out
        rw [encN, if_neg hq] at hE
        rw [or128 _ (by omega) (by omega)]
        show _ = _
        rw [← hE, List.append_assoc, show q % 256 % 128 = q % 128 from by omega]
        rfl

theorem PutUint_calls (A : Option Addr) (c : Nat) (l : List Int) (n : Int) (w : World) (hr : Rd w A l) (h0 : 0 ≤ n) (h1 : n ≤ 18446744073709551615) (hl : l.length + 16 ≤ 140737488355328) :
    Calls Try.prog 10 #[.slice A l.length c, .int .u64 n] w fun e w' => ∃ v, e = .returned v ∧ Own w' w.heap.size v (l ++ enc n) ∧ Below w.heap.size w w' := by
  have HR := Lib.hid hr
  clear hr
  go_enter Try.func10, Try.ntmps10
  go_wp2_with (first | (go_at_call 25; refine (fresh_calls A c l 10 _ HR.out (by omega) (by omega) (by omega)).mono ?_; rintro e w1 ⟨v1, rfl, ho, hb⟩; replace ho := Lib.hid ho; replace hb := Lib.hid hb) | (go_at_call 24; refine (short_calls _ l n w _ ho.out hb.out h0 h1 hl).mono ?_; rintro e w2 ⟨v2, rfl, ho2, hb2⟩; replace ho2 := Lib.hid ho2; replace hb2 := Lib.hid hb2))
  go_ret
  exact ⟨_, rfl, ho2.out, hb2.out⟩
end Go.Proofs.Ytgfbbbbiaikacaa.A
