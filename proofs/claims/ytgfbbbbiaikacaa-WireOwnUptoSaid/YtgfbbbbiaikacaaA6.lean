/- WirePutsUptoSaid is proved: for all arguments of bulk at most 1048576 the law WirePuts returns true and its argument reads as before. -/
import Derived.Test.YtgfbbbbiaikacaaA5
import Derived.Test.YtgfbbbbiaikacaaRows
import Derived.ProofKit
import Derived.OpenShut
import Derived.JoinedCond
import Derived.SliceStrings
import Derived.Lib.SmallJoins
import Derived.Deep.Slices
import Derived.Carry
namespace Go.Proofs.Ytgfbbbbiaikacaa.A
open Go.ChangeShapes Go.WideShapes Go.RowKit Go.Joins Go.Deep Go.Proofs.YtgfbbbbiaikacaaW.PrintWords Go.Proofs.YtgfbbbbiaikacaaW.PrintLast Go.Proofs.YtgfbbbbiaikacaaW.PrintMore

section
variable {H : Type} {enc : TypeId × Value → H} {w : World} {base : Nat} {spare : Nat → Bool} {held : Bool}

theorem bulk_strs (ss : List ByteArray) : bulkS ss ≤ 16 * Rows.uptoBulkAll (strs (H := H) ss) := by
  induction ss with
  | nil => simp [bulkS]
  | cons s r ih =>
    have h : strs (H := H) (s :: r) = .lit (.string s.data.toList) :: strs r := rfl
    rw [h]
    simp only [bulkS, Rows.uptoBulkAll, Rows.uptoBulk]
    have e : s.data.toList.length = s.size := by rw [Array.length_toList]; rfl
    omega

/-- a list of strings, read -/
theorem open_texts {fuel : Nat} {cs : List Value} {x : DataW H × List MemPlace} (h : DataW.trod enc Try.prog w base spare held fuel 25 cs = some x) :
    ∃ (ss : List ByteArray) (A : Option Addr) (c : Nat), cs = [.slice A ss.length c] ∧ RdS w A ss ∧ bulkS ss ≤ 16 * Rows.uptoBulk x.1 := by
  rcases open_strings Try.underlying25 Try.underlying9 (by kernel_rfl) h with ⟨rfl, rfl⟩ | ⟨a, len, cap, ss, rfl, _, hl, hm, hz, rfl, hc, hs⟩
  · exact ⟨[], none, 0, rfl, ReadsOf.nil _ _ _, by simp [bulkS]⟩
  · have hlen : len ≤ ss.length := by rw [hz]; split <;> omega
    have hm' : cap ≤ 9223372036854775807 := by simpa [maxLen] using hm
    refine ⟨ss.take len, some a, cap, by rw [List.length_take, Nat.min_eq_left hlen], ⟨rfl, by rw [List.length_take]; omega, fun _ => ⟨a, rfl, fun j hj => ?_⟩⟩, ?_⟩
    · rw [List.length_take] at hj
      rw [hc j (by omega)]
      rw [List.getD_eq_getElem?_getD, List.getD_eq_getElem?_getD, List.getElem?_take_of_lt (by omega)]
    · have := bulk_strs (H := H) (ss.take len)
      simp only [Rows.uptoBulk]
      omega

theorem wf_i64 {n : Int} (h : (Lit.int .i64 n).wf = true) : -9223372036854775808 ≤ n ∧ n ≤ 9223372036854775807 := by
  simp [Lit.wf, IntKind.min, IntKind.max, IntKind.bits, IntKind.signed] at h
  omega
theorem wf_u64 {n : Int} (h : (Lit.int .u64 n).wf = true) : 0 ≤ n ∧ n ≤ 18446744073709551615 := by
  simp [Lit.wf, IntKind.min, IntKind.max, IntKind.bits, IntKind.signed] at h
  omega

/-- a Put, read -/
theorem open_put {fuel : Nat} {cs : List Value} {x : DataW H × List MemPlace} (h : DataW.trod enc Try.prog w base spare held fuel 27 cs = some x) :
    ∃ (p : PutD) (A : Option Addr) (c : Nat), cs = [.int .i64 p.kind, .int .u64 p.u, .int .i64 p.i, .slice A p.texts.length c] ∧ RdS w A p.texts ∧ PutOk p ∧ bulkS p.texts + 32 ≤ 32 * Rows.uptoBulk x.1 := by
  obtain ⟨y0, y1, y2, y3, n, rfl, hl, h0, h1, h2, h3⟩ := trod_struct4 Try.underlying27 h
  have c27 : Try.prog.cellsOf 27 = 4 := by kernel_rfl
  have c3 : Try.prog.cellsOf 3 = 1 := by kernel_rfl
  have c24 : Try.prog.cellsOf 24 = 1 := by kernel_rfl
  have c2 : Try.prog.cellsOf 2 = 1 := by kernel_rfl
  have c25 : Try.prog.cellsOf 25 = 1 := by kernel_rfl
  rw [c27] at hl
  simp only [c3, c24, c2, c25] at h0 h1 h2 h3
  match cs, hl with
  | [a, b, c, d], _ =>
    simp only [List.drop_zero, List.drop_succ_cons, List.take_succ_cons, List.take_zero] at h0 h1 h2 h3
    obtain ⟨k, e0, rfl, w0⟩ := DataW.trod_int Try.underlying3 h0
    obtain ⟨u, e1, rfl, w1⟩ := DataW.trod_int Try.underlying24 h1
    obtain ⟨i, e2, rfl, w2⟩ := DataW.trod_int Try.underlying2 h2
    obtain ⟨ss, A, c', e3, hr, hb⟩ := open_texts h3
    simp only [List.cons.injEq, and_true] at e0 e1 e2 e3
    subst e0 e1 e2 e3
    have a0 := wf_i64 w0
    have a1 := wf_u64 w1
    have a2 := wf_i64 w2
    exact ⟨⟨k, u, i, ss⟩, A, c', rfl, hr, ⟨a0.1, a0.2, a1.1, a1.2, a2.1, a2.2⟩, by simp only [Rows.uptoBulk, Rows.uptoBulkAll] at hb ⊢; omega⟩

theorem bulkAll_append (l r : List (DataW H)) : Rows.uptoBulkAll (l ++ r) = Rows.uptoBulkAll l + Rows.uptoBulkAll r := by
  induction l with
  | nil => simp [Rows.uptoBulkAll]
  | cons x l ih => simp only [List.cons_append, Rows.uptoBulkAll, ih]; omega

theorem bulkP_append (a b : List PutD) : bulkP (a ++ b) = bulkP a + bulkP b := by
  induction a with
  | nil => simp [bulkP]
  | cons x r ih => simp only [List.cons_append, bulkP, ih]; omega

instance : Inhabited PutD := ⟨⟨0, 0, 0, []⟩⟩
/-- a list of Puts, read -/
theorem open_puts {fuel : Nat} {cs : List Value} {x : DataW H × List MemPlace} (h : DataW.trod enc Try.prog w base spare held fuel 22 cs = some x) :
    ∃ (ps : List PutD) (A : Option Addr) (c : Nat), cs = [.slice A ps.length c] ∧ PutsRd w A ps ∧ bulkP ps ≤ 32 * Rows.uptoBulk x.1 := by
  have c27 : Try.prog.cellsOf 27 = 4 := by kernel_rfl
  rcases open_slice Try.underlying22 h with ⟨rfl, rfl⟩ | ⟨a, len, cap, m, n, D, Pl, rfl, _, hl, hm, hmm, rfl, hx⟩
  · exact ⟨[], none, 0, rfl, fun k hk => absurd hk (by simp), by simp [bulkP]⟩
  · rw [c27] at hx
    have hlm : len ≤ m := by rw [hmm]; split <;> omega
    obtain ⟨f, hf⟩ := choose_lt (α := PutD) (p := fun i p => PutAt w (a.add (i * 4)) p ∧ bulkS p.texts + 32 ≤ 32 * Rows.uptoBulk (D i)) (n := len) (fun i hi => by
      obtain ⟨cs', h1, h2⟩ := hx i (by omega)
      obtain ⟨p, A, c, rfl, hr, hp, hb⟩ := open_put h2
      obtain ⟨_, _, hc⟩ := World.cells?_some h1
      have e : ∀ j, 0 < j → (a.add (i * 4)).add j = ⟨(a.add (i * 4)).block, (a.add (i * 4)).off + j, none⟩ := fun j hj => by
        unfold Addr.add
        split <;> split <;> simp_all
      refine ⟨p, ⟨A, c, ?_, ?_, ?_, ?_, hr, hp⟩, hb⟩
      · have := hc 0 (by omega); simpa [Addr.add] using this
      · have := hc 1 (by omega); rw [e 1 (by omega)] at this; simpa using this
      · have := hc 2 (by omega); rw [e 2 (by omega)] at this; simpa using this
      · have := hc 3 (by omega); rw [e 3 (by omega)] at this; simpa using this)
    refine ⟨(List.range len).map f, some a, cap, by simp, fun k hk => ⟨a, rfl, ?_⟩, ?_⟩
    · simp at hk
      simpa using (hf k hk).1
    · have : ∀ q, q ≤ len → bulkP ((List.range q).map f) ≤ 32 * Rows.uptoBulkAll ((List.range q).map D) := by
        intro q
        induction q with
        | zero => simp [bulkP]
        | succ q ih =>
          intro hq
          rw [List.range_succ, List.map_append, List.map_append, bulkP_append, bulkAll_append]
          have := ih (by omega)
          have := (hf q (by omega)).2
          simp only [List.map_cons, List.map_nil, bulkP, Rows.uptoBulkAll]
          omega
      have := this len (Nat.le_refl _)
      simp only [Rows.uptoBulk]
      omega
end

theorem own : ownKnob Try.prog.godebug = none := by kernel_rfl
theorem laidOut : laidOutB Try.prog = true := by kernel_rfl
theorem small_le {H : Type} {l : List (DataW H)} (hk : Rows.uptoSmall H l = true) : Rows.uptoBulkAll l ≤ 1048576 := of_decide_eq_true hk

theorem puts_contract (H : Type) (enc : TypeId × Value → H) (W : World) (base : Nat) (args : Array Value) (ds gs : List (DataW H)) (before : List MemPlace)
    (hval : ∀ (j : Nat) t v, Try.f3.params[j]? = some t → args[j]? = some v → Value.okWide Try.prog W .any base t v)
    (hW : DataW.Whole enc Try.prog Try.f3.params.toList Rows.wirePutsSpec.vars false W args.toList ds gs before) (hk : Rows.uptoSmall H (ds ++ gs) = true) :
    Calls Try.prog 3 args W fun e W' => ∃ v, e = .returned v ∧ Rows.wirePutsSpec.post enc Try.prog Try.f3 false true false false W args v W' := by
  have hW' := hW
  obtain ⟨p, q, hA0, hV, rfl, hfz, hnd⟩ := hW
  have hA : DataW.TrodAll enc Try.prog W 0 (fun _ => true) true Try.f3.params.toList args.toList ds p := hA0
  rw [Try.params3] at hA hval
  obtain ⟨v0, vs0, d0, ds0, p0, q0, hargs, rfl, rfl, h0, r0⟩ := trodAll_cons hA
  obtain ⟨rfl, rfl, rfl⟩ := trodAll_nil r0
  obtain rfl : args = #[v0] := by cases args; simp_all
  obtain ⟨rfl, rfl⟩ := trodVars_none hV
  have k0 := h0
  have lt0 : ∀ x ∈ p0, x.block < W.heap.size := by obtain ⟨m, hm⟩ := k0; exact DataW.trod_lt m _ _ _ hm
  obtain ⟨a0, len0, cap0, rfl⟩ := okWide_slice Try.underlying22 (hval 0 22 v0 rfl rfl)
  obtain ⟨ps, A, c, hcs, hr, hb⟩ : ∃ (ps : List PutD) (A : Option Addr) (c : Nat), Value.slice a0 len0 cap0 = .slice A ps.length c ∧ PutsRd W A ps ∧ bulkP ps ≤ 32 * Rows.uptoBulk d0 := by
    obtain ⟨fuel, hf⟩ := h0
    obtain ⟨ps, A, c, hcs, hr, hb⟩ := open_puts hf
    exact ⟨ps, A, c, by simpa [Value.cells] using hcs, hr, hb⟩
  simp only [Value.slice.injEq] at hcs
  obtain ⟨rfl, rfl, rfl⟩ := hcs
  have hbd := small_le hk
  simp only [List.append_nil, Rows.uptoBulkAll] at hbd
  clear hA0
  refine (WirePuts_calls _ _ ps W hr (by omega)).mono fun e W' ⟨he, bel⟩ => ?_
  subst he
  exact ⟨_, rfl, _, _, _, [], _, [], hW', trodAll_mk1 (shut_bool Try.underlying4 _), trodAll_cons_mk (Below.trod laidOut (by kernel_rfl) (of_decide_eq_true (by kernel_rfl)) k0 bel lt0) trodAll_mk0, rfl, bel.frame _, fun h => by cases h⟩

set_option maxRecDepth 100000 in
theorem puts_lifted (os : Os) (started : os.Started) (H : Type) (enc : TypeId × Value → H) (F : Stop.Interp) :
    ReturnsInHanded {} Try.checked os 3 .any ((Rows.OpenSpec.upto Rows.wirePutsSpec).pre6 enc Try.prog Try.f3 Rows.wirePutsUptoRow.domain false) (((Rows.OpenSpec.upto Rows.wirePutsSpec).at F).post enc Try.prog Try.f3 false true false false) := by
  refine returnsInHanded_of_cond (C := Try.checked) (s := Rows.OpenSpec.upto Rows.wirePutsSpec) (k := Rows.uptoSmall) rfl own started (by kernel_rfl) Try.func3
    (OpenSpec.witness (enc := enc) (C := Try.checked) (s := Rows.OpenSpec.upto Rows.wirePutsSpec) (k := Rows.uptoSmall) rfl false ⟨#[], #[.slice none 0 0], []⟩ 8 (by kernel_rfl) (by kernel_rfl) (by kernel_rfl)
      (x := ([.nil], [], [])) (by kernel_rfl) rfl (by kernel_rfl)) ?_
  intro W base args ds gs before hval hW _ hk _
  exact puts_contract H enc W base args ds gs before hval hW hk

theorem puts_proved : Rows.WirePutsUptoSaid :=
  OpenClaim.holds_of_cond 3 Try.f3 rfl rfl rfl rfl rfl rfl rfl ⟨rfl, rfl, rfl, rfl, rfl⟩ rfl rfl rfl rfl rfl (by kernel_rfl) Try.func3 (by kernel_rfl)
    (of_decide_eq_true (by kernel_rfl)) (by unfold Func.isWrapper; first | (rw [if_pos (by decide +kernel)]; kernel_rfl) | (rw [if_neg (by decide +kernel)]; exact ⟨rfl, rfl⟩))
    (fun os started H enc _ F => puts_lifted os started H enc F)
end Go.Proofs.Ytgfbbbbiaikacaa.A
namespace Go.Proofs.Ytgfbbbbiaikacaa
/-- The row, under a short name, for the claim. -/
theorem wirePutsUpto_holds : Rows.WirePutsUptoSaid := A.puts_proved
#print axioms wirePutsUpto_holds
end Go.Proofs.Ytgfbbbbiaikacaa
