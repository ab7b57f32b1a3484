/- WireOwnUptoSaid is proved: for all arguments of bulk at most 1048576 the law WireOwn returns true and its arguments read as before. -/
import Derived.Test.YtgfbbbbiaikacaaB3
import Derived.Test.YtgfbbbbiaikacaaA6
namespace Go.Proofs.Ytgfbbbbiaikacaa.B
open Go.ChangeShapes Go.WideShapes Go.RowKit Go.Joins Go.Deep Go.Proofs.Ytgfbbbbiaikacaa.A Go.Proofs.YtgfbbbbiaikacaaW.PrintWords Go.Proofs.YtgfbbbbiaikacaaW.PrintLast Go.Proofs.YtgfbbbbiaikacaaW.PrintMore

section
variable {H : Type} {enc : TypeId × Value → H} {w : World} {base : Nat} {spare : Nat → Bool} {held : Bool}
/-- bytes, read -/
theorem open_bytes {fuel : Nat} {cs : List Value} {x : DataW H × List MemPlace} (h : DataW.trod enc Try.prog w base spare held fuel 23 cs = some x) :
    ∃ (l : List Int) (A : Option Addr) (c : Nat), cs = [.slice A l.length c] ∧ l.length ≤ c ∧ Rd w A l ∧ l.length ≤ Rows.uptoBulk x.1 := by
  rcases open_ints Try.underlying23 Try.underlying5 (by kernel_rfl) h with ⟨rfl, rfl⟩ | ⟨a, len, cap, zs, rfl, _, hl, hm, hz, rfl, hc, _⟩
  · exact ⟨[], none, 0, rfl, Nat.le_refl _, ReadsInt.nil _ _, by simp⟩
  · have hlen : len ≤ zs.length := by rw [hz]; split <;> omega
    have hm' : cap ≤ 9223372036854775807 := by simpa [maxLen] using hm
    have hll : (zs.take len).length = len := by rw [List.length_take]; omega
    refine ⟨zs.take len, some a, cap, by rw [hll], by rw [hll]; exact hl, ⟨rfl, by rw [hll]; omega, fun _ => ⟨a, rfl, fun j hj => ?_⟩⟩, ?_⟩
    · rw [hll] at hj
      rw [hc j (by omega)]
      rw [List.getD_eq_getElem?_getD, List.getD_eq_getElem?_getD, List.getElem?_take_of_lt (by omega)]
    · have : ∀ l : List Int, l.length ≤ Rows.uptoBulkAll (lits (H := H) .u8 l) := by
        intro l
        induction l with
        | nil => simp
        | cons z r ih =>
          have h : lits (H := H) .u8 (z :: r) = .lit (.int .u8 z) :: lits .u8 r := rfl
          rw [h]
          simp only [Rows.uptoBulkAll, Rows.uptoBulk, List.length_cons]
          omega
      have := this (zs.take len)
      simp only [Rows.uptoBulk]
      omega
end

theorem own_contract (H : Type) (enc : TypeId × Value → H) (W : World) (base : Nat) (args : Array Value) (ds gs : List (DataW H)) (before : List MemPlace)
    (hval : ∀ (j : Nat) t v, Try.f4.params[j]? = some t → args[j]? = some v → Value.okWide Try.prog W .any base t v)
    (hW : DataW.Whole enc Try.prog Try.f4.params.toList Rows.wireOwnSpec.vars false W args.toList ds gs before) (hk : Rows.uptoSmall H (ds ++ gs) = true) :
    Calls Try.prog 4 args W fun e W' => ∃ v, e = .returned v ∧ Rows.wireOwnSpec.post enc Try.prog Try.f4 false true false false W args v W' := by
  have hW' := hW
  obtain ⟨p, q, hA0, hV, rfl, hfz, hnd⟩ := hW
  have hA : DataW.TrodAll enc Try.prog W 0 (fun _ => true) true Try.f4.params.toList args.toList ds p := hA0
  rw [Try.params4] at hA hval
  obtain ⟨v0, vs0, d0, ds0, p0, q0, hargs, rfl, rfl, h0, r0⟩ := trodAll_cons hA
  obtain ⟨v1, vs1, d1, ds1, p1, q1, rfl, rfl, rfl, h1, r1⟩ := trodAll_cons r0
  obtain ⟨v2, vs2, d2, ds2, p2, q2, rfl, rfl, rfl, h2, r2⟩ := trodAll_cons r1
  obtain ⟨rfl, rfl, rfl⟩ := trodAll_nil r2
  obtain rfl : args = #[v0, v1, v2] := by cases args; simp_all
  obtain ⟨rfl, rfl⟩ := trodVars_none hV
  have k0 := h0
  have lt0 : ∀ x ∈ p0, x.block < W.heap.size := by obtain ⟨m, hm⟩ := k0; exact DataW.trod_lt m _ _ _ hm
  have k1 := h1
  have lt1 : ∀ x ∈ p1, x.block < W.heap.size := by obtain ⟨m, hm⟩ := k1; exact DataW.trod_lt m _ _ _ hm
  have k2 := h2
  have lt2 : ∀ x ∈ p2, x.block < W.heap.size := by obtain ⟨m, hm⟩ := k2; exact DataW.trod_lt m _ _ _ hm
  obtain ⟨a0, len0, cap0, rfl⟩ := okWide_slice Try.underlying23 (hval 0 23 v0 rfl rfl)
  obtain ⟨b, A, c, hcs, hlc, hr, hb⟩ : ∃ (l : List Int) (A : Option Addr) (c : Nat), Value.slice a0 len0 cap0 = .slice A l.length c ∧ l.length ≤ c ∧ Rd W A l ∧ l.length ≤ Rows.uptoBulk d0 := by
    obtain ⟨fuel, hf⟩ := h0
    obtain ⟨ps, A, c, hcs, hlc, hr, hb⟩ := open_bytes hf
    exact ⟨ps, A, c, by simpa [Value.cells] using hcs, hlc, hr, hb⟩
  simp only [Value.slice.injEq] at hcs
  obtain ⟨rfl, rfl, rfl⟩ := hcs
  obtain ⟨cs, rfl, hsz⟩ := okWide_struct Try.underlying27 (hval 1 27 v1 rfl rfl)
  obtain ⟨pd, A1, c1, hcs1, hr1, hp, hb1⟩ : ∃ (p : PutD) (A : Option Addr) (c : Nat), cs.toList = [.int .i64 p.kind, .int .u64 p.u, .int .i64 p.i, .slice A p.texts.length c] ∧ RdS W A p.texts ∧ PutOk p ∧ bulkS p.texts + 32 ≤ 32 * Rows.uptoBulk d1 := by
    obtain ⟨fuel, hf⟩ := h1
    obtain ⟨p, A, c, hcs, hr, hp, hb⟩ := open_put hf
    exact ⟨p, A, c, by simpa [Value.cells] using hcs, hr, hp, hb⟩
  obtain rfl : cs = #[.int .i64 pd.kind, .int .u64 pd.u, .int .i64 pd.i, .slice A1 pd.texts.length c1] := by
    apply Array.toList_inj.1
    rw [hcs1]
  obtain ⟨n, rfl, rfl, rfl, wn⟩ := open_int Try.underlying3 (hval 2 3 v2 rfl rfl) h2
  have hbd := small_le hk
  simp only [List.append_nil, Rows.uptoBulkAll] at hbd
  clear hA0
  refine (WireOwn_calls _ _ b pd A1 c1 n W hr hlc hp hr1 (by omega)).mono fun e W' ⟨he, bel⟩ => ?_
  subst he
  exact ⟨_, rfl, _, _, _, [], _, [], hW', trodAll_mk1 (shut_bool Try.underlying4 _), trodAll_cons_mk (Below.trod laidOut (by kernel_rfl) (of_decide_eq_true (by kernel_rfl)) k0 bel lt0) (trodAll_cons_mk (Below.trod laidOut (by kernel_rfl) (of_decide_eq_true (by kernel_rfl)) k1 bel lt1) (trodAll_cons_mk (Below.trod laidOut (by kernel_rfl) (of_decide_eq_true (by kernel_rfl)) k2 bel lt2) trodAll_mk0)), rfl, bel.frame _, fun h => by cases h⟩

set_option maxRecDepth 100000 in
theorem own_lifted (os : Os) (started : os.Started) (H : Type) (enc : TypeId × Value → H) (F : Stop.Interp) :
    ReturnsInHanded {} Try.checked os 4 .any ((Rows.OpenSpec.upto Rows.wireOwnSpec).pre6 enc Try.prog Try.f4 Rows.wireOwnUptoRow.domain false) (((Rows.OpenSpec.upto Rows.wireOwnSpec).at F).post enc Try.prog Try.f4 false true false false) := by
  refine returnsInHanded_of_cond (C := Try.checked) (s := Rows.OpenSpec.upto Rows.wireOwnSpec) (k := Rows.uptoSmall) rfl own started (by kernel_rfl) Try.func4
    (OpenSpec.witness (enc := enc) (C := Try.checked) (s := Rows.OpenSpec.upto Rows.wireOwnSpec) (k := Rows.uptoSmall) rfl false ⟨#[], #[.slice none 0 0, .agg #[.int .i64 0, .int .u64 0, .int .i64 0, .slice none 0 0], .int .i64 0], []⟩ 8 (by kernel_rfl) (by kernel_rfl) (by kernel_rfl)
      (x := ([.nil, .agg [.lit (.int .i64 0), .lit (.int .u64 0), .lit (.int .i64 0), .nil], .lit (.int .i64 0)], [], [])) (by kernel_rfl) rfl (by kernel_rfl)) ?_
  intro W base args ds gs before hval hW _ hk _
  exact own_contract H enc W base args ds gs before hval hW hk

theorem own_proved : Rows.WireOwnUptoSaid :=
  OpenClaim.holds_of_cond 4 Try.f4 rfl rfl rfl rfl rfl rfl rfl ⟨rfl, rfl, rfl, rfl, rfl⟩ rfl rfl rfl rfl rfl (by kernel_rfl) Try.func4 (by kernel_rfl)
    (of_decide_eq_true (by kernel_rfl)) (by unfold Func.isWrapper; first | (rw [if_pos (by decide +kernel)]; kernel_rfl) | (rw [if_neg (by decide +kernel)]; exact ⟨rfl, rfl⟩))
    (fun os started H enc _ F => own_lifted os started H enc F)
end Go.Proofs.Ytgfbbbbiaikacaa.B
namespace Go.Proofs.Ytgfbbbbiaikacaa
/-- The row, under a short name, for the claim. -/
theorem wireOwnUpto_holds : Rows.WireOwnUptoSaid := B.own_proved
#print axioms wireOwnUpto_holds
end Go.Proofs.Ytgfbbbbiaikacaa
