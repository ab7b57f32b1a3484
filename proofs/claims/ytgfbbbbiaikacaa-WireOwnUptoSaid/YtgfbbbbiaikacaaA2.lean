/- The contract of texts (layer wire); conditions: the texts together below 2^47 bytes. -/
import Derived.Test.YtgfbbbbiaikacaaA1
import Derived.Laws.Bits64
import Derived.Deep.DeepMust
namespace Go.Proofs.Ytgfbbbbiaikacaa.A
open Go.RowKit Go.Proofs.YtgfbbbbiaikacaaW.PrintWords Go.Proofs.YtgfbbbbiaikacaaW.PrintLast Go.Proofs.YtgfbbbbiaikacaaW.PrintMore

abbrev RdS (w : World) (A : Option Addr) (l : List ByteArray) : Prop := ReadsOf Value.string ByteArray.empty w A l.length l
def textB (s : ByteArray) : List Int := enc s.size ++ bytesOf s
def textsB (l : List ByteArray) : List Int := l.flatMap textB
/-- how many bytes texts take, at most -/
def bulkS : List ByteArray → Nat
  | [] => 0
  | s :: r => s.size + 16 + bulkS r
theorem enc_len (n : Int) : (enc n).length ≤ 10 := encN_len 9 n
theorem textB_len (s : ByteArray) : (textB s).length ≤ s.size + 10 := by
  have := enc_len s.size
  simp only [textB, List.length_append, bytesOf_length]
  omega
theorem textsB_len (l : List ByteArray) : (textsB l).length ≤ bulkS l := by
  induction l with
  | nil => simp [textsB, bulkS]
  | cons s r ih =>
    have h : textsB (s :: r) = textB s ++ textsB r := by simp [textsB]
    rw [h, List.length_append, bulkS]
    have := textB_len s
    omega
theorem textsB_take (l : List ByteArray) (k : Nat) (hk : k < l.length) : textsB (l.take (k + 1)) = textsB (l.take k) ++ textB (l.getD k ByteArray.empty) := by
  simp only [textsB]
  rw [List.take_succ_eq_append_getElem hk, List.flatMap_append]
  simp [List.getD_eq_getElem?_getD, List.getElem?_eq_getElem hk]
theorem bulk_take (l : List ByteArray) : ∀ (k : Nat), bulkS (l.take k) ≤ bulkS l := by
  induction l with
  | nil => simp
  | cons s r ih =>
    intro k
    cases k with
    | zero => simp [bulkS]
    | succ k => have := ih k; simp only [List.take_succ_cons, bulkS]; omega
theorem bulk_len (l : List ByteArray) : l.length ≤ bulkS l := by
  induction l with
  | nil => simp
  | cons s r ih => simp [bulkS]; omega
theorem bulk_at (l : List ByteArray) (k : Nat) (hk : k < l.length) : bulkS (l.take k) + (l.getD k ByteArray.empty).size + 16 ≤ bulkS l := by
  have h := bulk_take l (k + 1)
  have e : ∀ a b : List ByteArray, bulkS (a ++ b) = bulkS a + bulkS b := by
    intro a b
    induction a with
    | nil => simp [bulkS]
    | cons x r ih => simp only [List.cons_append, bulkS, ih]; omega
  rw [List.take_succ_eq_append_getElem hk, e] at h
  simp only [bulkS] at h
  simp only [List.getD_eq_getElem?_getD, List.getElem?_eq_getElem hk, Option.getD_some]
  omega

section
variable {ops : Array Oper} {rest : List Oper} {o : Oper} {a : Act} {Q : Exit → Act → World → Prop}
/-- append(v, s...), v of the call's own. -/
theorem appS {w0 W : World} {B : Nat} (hgd : o.guard = none) (s x : Operand) (ho : o.op = .call { callee := .builtin .append, args := #[s, x], argTypes := #[23, 9] })
    (v : Value) (xs : List Int) (y : ByteArray) (hs : a.eval s = v) (hx : a.eval x = .string y)
    (HO : Hid (Own W B v xs)) (HB : Hid (Below B w0 W)) (hbase : B ≤ W.heap.size) (hl : xs.length + y.size ≤ 140737488355328)
    (h : ∀ v1 w1, Hid (Own w1 B v1 (xs ++ bytesOf y)) → Hid (Below B w0 w1) → wpList Try.prog ops Q rest (a.put o.dst v1) w1) :
    wpList Try.prog ops Q (o :: rest) a W :=
  print_append_str B hgd s x 23 9 5 ho Try.underlying23 Try.underlying9 info5 v xs y hs hx HO.out HB.out hbase hl (fun v1 w1 h1 h2 _ => h v1 w1 h1 h2)
/-- append(v, ys...), v of the call's own. -/
theorem appR {w0 W : World} {B : Nat} (hgd : o.guard = none) (s x : Operand) (ho : o.op = .call { callee := .builtin .append, args := #[s, x], argTypes := #[23, 23] })
    (v : Value) (xs ys : List Int) (A : Option Addr) (c : Nat) (hs : a.eval s = v) (hx : a.eval x = .slice A ys.length c)
    (HO : Hid (Own W B v xs)) (HR : Hid (Rd W A ys)) (HB : Hid (Below B w0 W)) (hbase : B ≤ W.heap.size) (hl : xs.length + ys.length ≤ 140737488355328)
    (h : ∀ v1 w1, Hid (Own w1 B v1 (xs ++ ys)) → Hid (Below B w0 w1) → wpList Try.prog ops Q rest (a.put o.dst v1) w1) :
    wpList Try.prog ops Q (o :: rest) a W :=
  print_append_row B hgd s x 23 5 .u8 1 ho Try.underlying23 info5 (by omega) v xs ys A ys.length c hs hx HO.out HR.out HB.out hbase (by omega) (fun v1 w1 h1 h2 _ _ => h v1 w1 h1 h2)
end

set_option maxHeartbeats 400000 in
theorem texts_calls (v : Value) (l : List Int) (A : Option Addr) (c : Nat) (ss : List ByteArray) (w0 w : World) (ho : Own w w0.heap.size v l) (hb : Below w0.heap.size w0 w) (hr : RdS w0 A ss) (hl : l.length + bulkS ss ≤ 140737488355328) :
    Calls Try.prog 30 #[v, .slice A ss.length c] w fun e w' => ∃ v', e = .returned v' ∧ Own w' w0.heap.size v' (l ++ textsB ss) ∧ Below w0.heap.size w0 w' := by
  have HO := Lib.hid ho
  have HB := Lib.hid hb
  have HR := Lib.hid hr
  clear ho hb hr
  have hbl := bulk_len ss
  go_enter Try.func30, Try.ntmps30
  go_wp2_with fail
  go_loopw [0, 9] (fun v i wr => ∃ (k : Nat), i = .int .i64 k ∧ k ≤ ss.length ∧ Hid (Own wr w0.heap.size v (l ++ textsB (ss.take k))) ∧ Hid (Below w0.heap.size w0 wr)) (fun _ i _ => ss.length - (intOf i).toNat)
  case atStart => exact ⟨0, rfl, by omega, by simpa [textsB] using HO, HB⟩
  case round =>
    obtain ⟨k, rfl, hk, hO, hB⟩ := hrel
    have hs := hB.out.size
    by_cases hlt : k < ss.length
    · have hbk := bulk_at ss k hlt
      have htl := textsB_len (ss.take k)
      obtain ⟨ad, rfl, hc⟩ := HR.out.2.2 (by omega)
      have hcell : wr.cell? (ad.add k) = some (.string (ss.getD k ByteArray.empty)) := by
        have h := hc k hlt
        exact (hB.out.cell (World.block_lt_of_cell? w0 _ h)).trans h
      have HT := Lib.hid (textsB_take ss k hlt)
      clear hc
      obtain ⟨s, hs⟩ : ∃ s, s = ss.getD k ByteArray.empty := ⟨_, rfl⟩
      rw [← hs] at hcell hbk HT
      clear hs
      have hel := enc_len s.size
      go_wp2_with (first | (go_at_call 24; go_must (refine (short_calls _ (l ++ textsB (ss.take k)) s.size w0 _ hO.out hB.out (by omega) (by omega) (by rw [List.length_append]; omega)).mono ?_); rintro e w1 ⟨v1, rfl, ho, hb⟩; replace ho := Lib.hid ho; replace hb := Lib.hid hb) | (at_builtin; go_must (refine appS rfl (.tmp 17) (.tmp 18) rfl v1 (l ++ textsB (ss.take k) ++ enc s.size) s rfl rfl ho hb hb.out.size (by simp only [List.length_append]; omega) ?_); intro v2 w2 ho2 hb2))
      go_roundw
      case rel => exact ⟨k + 1, by go_num, by omega, by rw [HT.out]; have h := ho2; simp only [textB, List.append_assoc] at h ⊢; exact h, hb2⟩
      case measure => simp [intOf]; omega
    · go_wp2_with fail
      go_ret
      rw [List.take_of_length_le (by omega)] at hO
      exact ⟨_, rfl, hO.out, hB.out⟩

end Go.Proofs.Ytgfbbbbiaikacaa.A
