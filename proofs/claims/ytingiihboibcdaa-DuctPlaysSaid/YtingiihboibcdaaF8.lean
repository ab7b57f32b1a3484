/- DuctPlaysSaid is proved: the law DuctPlays returns true whatever its arguments, which read as before. No conditions. -/
import Derived.Test.YtingiihboibcdaaF6
import Derived.Test.YtingiihboibcdaaE2
namespace Go.Proofs.Ytingiihboibcdaa.D
open Go.ChangeShapes Go.WideShapes Go.RowKit Go.Joins Go.Deep Go.Proofs.YtingiihboibcdaaW.PrintWords Go.Proofs.YtingiihboibcdaaW.PrintLast Go.Proofs.YtingiihboibcdaaW.PrintMore
set_option linter.unusedSimpArgs false
set_option linter.unusedVariables false
theorem bytes31 : Try.prog.bytesOf 31 = 48 := by kernel_rfl
/-- a list's datum is so long -/
def LenD {H : Type} (n : Nat) (d : DataW H) : Prop := (d = .nil ∧ n = 0) ∨ ∃ E S, d = .slice E S ∧ E.length = n
section
variable {H : Type} {enc : TypeId × Value → H} {w : World} {base : Nat} {spare : Nat → Bool} {held : Bool}
theorem open_acts2 {fuel : Nat} {cs : List Value} {x : DataW H × List MemPlace} (h : DataW.trod enc Try.prog w base spare held fuel 22 cs = some x) :
    ∃ (ps : List ActD) (A : Option Addr) (c : Nat), cs = [.slice A ps.length c] ∧ ActsRd w A ps ∧ LenD ps.length x.1 := by
  have c31 : Try.prog.cellsOf 31 = 4 := by kernel_rfl
  rcases open_slice Try.underlying22 h with ⟨rfl, rfl⟩ | ⟨a, len, cap, m, n, D, Pl, rfl, _, hl, hm, hmm, rfl, hx⟩
  · exact ⟨[], none, 0, rfl, ⟨by simp, fun k hk => absurd hk (by simp)⟩, .inl ⟨rfl, rfl⟩⟩
  · rw [c31] at hx
    have hm' : cap ≤ 9223372036854775807 := by simpa [maxLen] using hm
    have hlm : len ≤ m := by rw [hmm]; split <;> omega
    obtain ⟨f, hf⟩ := choose_lt (α := ActD) (p := fun i p => ActAt w (a.add (i * 4)) p) (n := len) (fun i hi => by
      obtain ⟨cs', h1, h2⟩ := hx i (by omega)
      obtain ⟨p, A, c, rfl, hr, hp, hb⟩ := open_act h2
      obtain ⟨_, _, hc⟩ := World.cells?_some h1
      have e : ∀ j, 0 < j → (a.add (i * 4)).add j = ⟨(a.add (i * 4)).block, (a.add (i * 4)).off + j, none⟩ := fun j hj => by
        unfold Addr.add
        split <;> split <;> simp_all
      refine ⟨p, A, c, ?_, ?_, ?_, ?_, hr, hp⟩
      · have := hc 0 (by omega); simpa [Addr.add] using this
      · have := hc 1 (by omega); rw [e 1 (by omega)] at this; simpa using this
      · have := hc 2 (by omega); rw [e 2 (by omega)] at this; simpa using this
      · have := hc 3 (by omega); rw [e 3 (by omega)] at this; simpa using this)
    refine ⟨(List.range len).map f, some a, cap, by simp, ⟨by simp; omega, fun k hk => ⟨a, rfl, ?_⟩⟩, .inr ⟨_, _, rfl, by simp⟩⟩
    simp at hk
    simpa using hf k hk
theorem LenD.sized {ts : List TypeId} {ds : List (DataW H)} (h : (DataW.weightsEach Try.prog ts ds).all (· ≤ reachBytes) = true) {j : Nat} {t e : TypeId} {d : DataW H} {n : Nat} (hd : LenD n d) (ht : ts[j]? = some t) (hj : ds[j]? = some d) (hu : Try.prog.underlying t = some (.slice e)) :
    n * Try.prog.bytesOf e ≤ 140737488351232 := by
  rcases hd with ⟨rfl, rfl⟩ | ⟨E, S, rfl, hn⟩
  · simp
  · have := sized_slice h ht hj hu
    have h1 : E.length * Try.prog.bytesOf e ≤ (E.length + S.length) * Try.prog.bytesOf e := Nat.mul_le_mul_right _ (by omega)
    rw [← hn]
    simp only [reachBytes] at this
    omega
end
set_option maxRecDepth 100000 in
theorem plays_lifted (os : Os) (started : os.Started) (H : Type) (enc : TypeId × Value → H) :
    ReturnsInHanded {} Try.checked os 4 .any (Rows.ductPlaysSpec.pre6 enc Try.prog Try.f4 Rows.ductPlaysRow.domain false) (Rows.ductPlaysSpec.post enc Try.prog Try.f4 false true false false) := by
  refine returnsInHanded_of_change_sized (C := Try.checked) own started (by kernel_rfl) Try.func4
    (ChangeSpec.witness6 (enc := enc) (C := Try.checked) false ⟨#[], #[.int .i64 0, .slice none 0 0], []⟩ 8 (by kernel_rfl) (by kernel_rfl) (by kernel_rfl) (by kernel_rfl)) ?_
  intro W base args ds gs before hval0 hW hcnd hsz0 _
  have hval : ∀ (j : Nat) t v, Try.f4.params[j]? = some t → args[j]? = some v → Value.okWide Try.prog W .any base t v := hval0
  have hsz : (DataW.weightsEach Try.prog (Try.f4.params.toList ++ Rows.ductPlaysSpec.plain.varTypes Try.prog) (ds ++ gs)).all (· ≤ reachBytes) = true := hsz0
  have hW' := hW
  obtain ⟨p, q, hA0, hV, rfl, hfz, hnd⟩ := hW
  have hA : DataW.TrodAll enc Try.prog W 0 (fun _ => true) true Try.f4.params.toList args.toList ds p := hA0
  rw [Try.params4] at hA hval hsz
  obtain ⟨v0, vs0, d0, ds0, p0, q0, hargs, rfl, rfl, h0, r0⟩ := trodAll_cons hA
  obtain ⟨v1, vs1, d1, ds1, p1, q1, rfl, rfl, rfl, h1, r1⟩ := trodAll_cons r0
  obtain ⟨rfl, rfl, rfl⟩ := trodAll_nil r1
  obtain rfl : args = #[v0, v1] := by cases args; simp_all
  obtain ⟨rfl, rfl⟩ := trodVars_none hV
  have k1 := h1
  have lt1 : ∀ x ∈ p1, x.block < W.heap.size := by obtain ⟨m, hm⟩ := k1; exact DataW.trod_lt m _ _ _ hm
  have k0 := h0
  have lt0 : ∀ x ∈ p0, x.block < W.heap.size := by obtain ⟨m, hm⟩ := k0; exact DataW.trod_lt m _ _ _ hm
  obtain ⟨n, rfl, rfl, rfl, wn⟩ := open_int Try.underlying3 (hval 0 3 v0 rfl rfl) h0
  have hn := wf_i64 wn
  obtain ⟨a1, len1, cap1, rfl⟩ := okWide_slice Try.underlying22 (hval 1 22 v1 rfl rfl)
  obtain ⟨ps, A, c, hcs, hr, hl⟩ : ∃ (ps : List ActD) (A : Option Addr) (c : Nat), Value.slice a1 len1 cap1 = .slice A ps.length c ∧ ActsRd W A ps ∧ LenD ps.length d1 := by
    obtain ⟨fuel, hf⟩ := h1
    obtain ⟨ps, A, c, hcs, hr, hl⟩ := open_acts2 hf
    exact ⟨ps, A, c, by simpa [Value.cells] using hcs, hr, hl⟩
  simp only [Value.slice.injEq] at hcs
  obtain ⟨rfl, rfl, rfl⟩ := hcs
  have b1 := hl.sized hsz (j := 1) (t := 22) (e := 31) rfl rfl Try.underlying22
  rw [bytes31] at b1
  clear hA0 hval0
  refine (DuctPlays_calls W n _ _ ps hn.1 hn.2 hr (by omega)).mono fun e W' ⟨he, bel⟩ => ?_
  subst he
  exact ⟨_, rfl, _, _, _, [], _, [], hW', trodAll_mk1 (shut_bool Try.underlying4 _), trodAll_cons_mk (Below.trod laidOut (by kernel_rfl) (of_decide_eq_true (by kernel_rfl)) k0 bel lt0) (trodAll_cons_mk (Below.trod laidOut (by kernel_rfl) (of_decide_eq_true (by kernel_rfl)) k1 bel lt1) trodAll_mk0), rfl, bel.frame _, fun h => by cases h⟩
theorem plays_proved : Rows.DuctPlaysSaid :=
  OpenClaim.holds_of_wide 4 Try.f4 rfl rfl rfl rfl rfl rfl rfl ⟨rfl, rfl, rfl, rfl, rfl⟩ rfl rfl rfl rfl rfl (by kernel_rfl) Try.func4 (by kernel_rfl)
    (of_decide_eq_true (by kernel_rfl)) (by unfold Func.isWrapper; first | (rw [if_pos (by decide +kernel)]; kernel_rfl) | (rw [if_neg (by decide +kernel)]; exact ⟨rfl, rfl⟩))
    (fun os started H enc _ => plays_lifted os started H enc)
end Go.Proofs.Ytingiihboibcdaa.D
namespace Go.Proofs.Ytingiihboibcdaa
/-- The row, under a short name, for the claim. -/
theorem ductPlays_holds : Rows.DuctPlaysSaid := D.plays_proved
#print axioms ductPlays_holds
end Go.Proofs.Ytingiihboibcdaa
