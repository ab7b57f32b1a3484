/- LruCountsSaid is proved: the law LruCounts returns true for all arguments, which read as before. No conditions. -/
import Derived.Test.YtecgbhiebaiokaaH24
import Derived.Test.YtecgbhiebaiokaaRows
namespace Go.Proofs.Ytecgbhiebaiokaa.G
open Go.ChangeShapes Go.WideShapes Go.RowKit Go.Joins Go.Deep Go.Proofs.YtecgbhiebaiokaaW.PrintWords Go.Proofs.YtecgbhiebaiokaaW.PrintLast Go.Proofs.YtecgbhiebaiokaaW.PrintMore
theorem LruCounts_calls (w : World) (most : Int) (A : Option Addr) (c : Nat) (ps : List ActL) (hr : ActsRd w A ps) (hlen2 : ps.length ≤ 1000000000000000) :
    Calls Try.prog 5 #[.int .i64 most, .slice A ps.length c] w fun e w' => e = .returned (.bool true) ∧ Below w.heap.size w w' := by
  by_cases h : most < 1 ∨ 4096 < most
  · exact LruCounts_bad w most A ps.length c h
  · obtain ⟨a, rfl⟩ : ∃ a : Nat, most = a := ⟨most.toNat, by omega⟩
    exact LruCounts_good w a A c ps (by omega) (by omega) hr hlen2
set_option maxRecDepth 100000 in
theorem counts_lifted (os : Os) (started : os.Started) (H : Type) (enc : TypeId × Value → H) :
    ReturnsInHanded {} Try.checked os 5 .any (Rows.lruCountsSpec.pre6 enc Try.prog Try.f5 Rows.lruCountsRow.domain false) (Rows.lruCountsSpec.post enc Try.prog Try.f5 false true false false) := by
  refine returnsInHanded_of_change_sized (C := Try.checked) own started (by kernel_rfl) Try.func5
    (ChangeSpec.witness6 (enc := enc) (C := Try.checked) false ⟨#[], #[.int .i64 0, .slice none 0 0], []⟩ 8 (by kernel_rfl) (by kernel_rfl) (by kernel_rfl) (by kernel_rfl)) ?_
  intro W base args ds gs before hval0 hW hcnd hsz0 _
  have hval : ∀ (j : Nat) t v, Try.f5.params[j]? = some t → args[j]? = some v → Value.okWide Try.prog W .any base t v := hval0
  have hsz : (DataW.weightsEach Try.prog (Try.f5.params.toList ++ Rows.lruCountsSpec.plain.varTypes Try.prog) (ds ++ gs)).all (· ≤ reachBytes) = true := hsz0
  have hW' := hW
  obtain ⟨p, q, hA0, hV, rfl, hfz, hnd⟩ := hW
  have hA : DataW.TrodAll enc Try.prog W 0 (fun _ => true) true Try.f5.params.toList args.toList ds p := hA0
  rw [Try.params5] at hA hval hsz
  obtain ⟨v0, vs0, d0, ds0, p0, q0, hargs, rfl, rfl, h0, r0⟩ := trodAll_cons hA
  obtain ⟨v2, vs2, d2, ds2, p2, q2, rfl, rfl, rfl, h2, r2⟩ := trodAll_cons r0
  obtain ⟨rfl, rfl, rfl⟩ := trodAll_nil r2
  obtain rfl : args = #[v0, v2] := by cases args; simp_all
  obtain ⟨rfl, rfl⟩ := trodVars_none hV
  have k0 := h0
  have lt0 : ∀ x ∈ p0, x.block < W.heap.size := by obtain ⟨m, hm⟩ := k0; exact DataW.trod_lt m _ _ _ hm
  have k2 := h2
  have lt2 : ∀ x ∈ p2, x.block < W.heap.size := by obtain ⟨m, hm⟩ := k2; exact DataW.trod_lt m _ _ _ hm
  obtain ⟨n0, rfl, rfl, rfl, wn0⟩ := open_int Try.underlying3 (hval 0 3 v0 rfl rfl) h0
  obtain ⟨a2, len2, cap2, rfl⟩ := okWide_slice Try.underlying22 (hval 1 22 v2 rfl rfl)
  obtain ⟨ps, A, c, hcs, hr, hl⟩ : ∃ (ps : List ActL) (A : Option Addr) (c : Nat), Value.slice a2 len2 cap2 = .slice A ps.length c ∧ ActsRd W A ps ∧ LenD ps.length d2 := by
    obtain ⟨fuel, hf⟩ := h2
    obtain ⟨ps, A, c, hcs, hr, hb⟩ := open_acts hf
    exact ⟨ps, A, c, by simpa [Value.cells] using hcs, hr, hb⟩
  simp only [Value.slice.injEq] at hcs
  obtain ⟨rfl, rfl, rfl⟩ := hcs
  have hln := hl.sized hsz (j := 1) (t := 22) (e := 30) rfl rfl Try.underlying22
  rw [bytes30] at hln
  clear hA0 hval0
  refine (LruCounts_calls W n0 _ _ ps hr (by omega)).mono fun e W' ⟨he, bel⟩ => ?_
  subst he
  exact ⟨_, rfl, _, _, _, [], _, [], hW', trodAll_mk1 (shut_bool Try.underlying4 _), trodAll_cons_mk (Below.trod laidOut (by kernel_rfl) (of_decide_eq_true (by kernel_rfl)) k0 bel lt0) (trodAll_cons_mk (Below.trod laidOut (by kernel_rfl) (of_decide_eq_true (by kernel_rfl)) k2 bel lt2) trodAll_mk0), rfl, bel.frame _, fun h => by cases h⟩
theorem counts_proved : Rows.LruCountsSaid :=
  OpenClaim.holds_of_wide 5 Try.f5 rfl rfl rfl rfl rfl rfl rfl ⟨rfl, rfl, rfl, rfl, rfl⟩ rfl rfl rfl rfl rfl (by kernel_rfl) Try.func5 (by kernel_rfl)
    (of_decide_eq_true (by kernel_rfl)) (by unfold Func.isWrapper; first | (rw [if_pos (by decide +kernel)]; kernel_rfl) | (rw [if_neg (by decide +kernel)]; exact ⟨rfl, rfl⟩))
    (fun os started H enc _ => counts_lifted os started H enc)
end Go.Proofs.Ytecgbhiebaiokaa.G
namespace Go.Proofs.Ytecgbhiebaiokaa
/-- The row, under a short name, for the claim. -/
theorem lruCounts_holds : Rows.LruCountsSaid := G.counts_proved
#print axioms lruCounts_holds
end Go.Proofs.Ytecgbhiebaiokaa
