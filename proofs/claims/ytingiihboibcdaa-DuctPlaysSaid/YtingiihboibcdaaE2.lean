/- DuctNilSaid is proved: the law DuctNil returns true for all arguments, which read as before. -/
import Derived.Test.YtingiihboibcdaaE1
import Derived.Test.YtingiihboibcdaaRows
import Derived.ProofKit
import Derived.OpenShut
import Derived.JoinedCond
import Derived.SliceStrings
import Derived.Lib.SmallJoins
import Derived.Deep.Slices
import Derived.Carry
namespace Go.Proofs.Ytingiihboibcdaa.D
open Go.ChangeShapes Go.WideShapes Go.RowKit Go.Joins Go.Deep Go.Proofs.YtingiihboibcdaaW.PrintWords Go.Proofs.YtingiihboibcdaaW.PrintLast Go.Proofs.YtingiihboibcdaaW.PrintMore

/-- how much a list of rows holds -/
def bulkR : List (List Int) → Nat
  | [] => 0
  | p :: r => p.length + bulkR r
def bulkD : List ActD → Nat
  | [] => 0
  | p :: r => bulkR p.parts + 1 + bulkD r
theorem bulkR_append (a b : List (List Int)) : bulkR (a ++ b) = bulkR a + bulkR b := by
  induction a with
  | nil => simp [bulkR]
  | cons x r ih => simp only [List.cons_append, bulkR, ih]; omega
theorem bulkD_append (a b : List ActD) : bulkD (a ++ b) = bulkD a + bulkD b := by
  induction a with
  | nil => simp [bulkD]
  | cons x r ih => simp only [List.cons_append, bulkD, ih]; omega

section
variable {H : Type} {enc : TypeId × Value → H} {w : World} {base : Nat} {spare : Nat → Bool} {held : Bool}
theorem bulkAll_append (l r : List (DataW H)) : Rows.uptoBulkAll (l ++ r) = Rows.uptoBulkAll l + Rows.uptoBulkAll r := by
  induction l with
  | nil => simp [Rows.uptoBulkAll]
  | cons x l ih => simp only [List.cons_append, Rows.uptoBulkAll, ih]; omega
/-- bytes, read -/
theorem open_bytes {fuel : Nat} {cs : List Value} {x : DataW H × List MemPlace} (h : DataW.trod enc Try.prog w base spare held fuel 28 cs = some x) :
    ∃ (l : List Int) (A : Option Addr) (c : Nat), cs = [.slice A l.length c] ∧ l.length ≤ c ∧ Rd w A l ∧ l.length ≤ Rows.uptoBulk x.1 := by
  rcases open_ints Try.underlying28 Try.underlying5 (by kernel_rfl) h with ⟨rfl, rfl⟩ | ⟨a, len, cap, zs, rfl, _, hl, hm, hz, rfl, hc, _⟩
  · exact ⟨[], none, 0, rfl, Nat.le_refl _, ReadsInt.nil _ _, by simp⟩
  · have hlen : len ≤ zs.length := by rw [hz]; split <;> omega
    have hm' : cap ≤ 9223372036854775807 := by simpa [maxLen] using hm
    have hll : (zs.take len).length = len := by rw [List.length_take]; omega
    refine ⟨zs.take len, some a, cap, by rw [hll], by rw [hll]; exact hl, ⟨rfl, by rw [hll]; omega, fun _ => ⟨a, rfl, fun j hj => ?_⟩⟩, ?_⟩
    · rw [hll] at hj
      rw [hc j (by omega)]
      rw [List.getD_eq_getElem?_getD, List.getD_eq_getElem?_getD, List.getElem?_take_of_lt (by omega)]
    · have : ∀ l : List Int, l.length ≤ Rows.uptoBulkAll (lits (H := H) .u8 l) := by
        intro l
        induction l with
        | nil => simp
        | cons z r ih =>
          have h : lits (H := H) .u8 (z :: r) = .lit (.int .u8 z) :: lits .u8 r := rfl
          rw [h]
          simp only [Rows.uptoBulkAll, Rows.uptoBulk, List.length_cons]
          omega
      have := this (zs.take len)
      simp only [Rows.uptoBulk]
      omega
/-- a list of rows of bytes, read -/
theorem open_parts {fuel : Nat} {cs : List Value} {x : DataW H × List MemPlace} (h : DataW.trod enc Try.prog w base spare held fuel 29 cs = some x) :
    ∃ (ps : List (List Int)) (A : Option Addr) (c : Nat), cs = [.slice A ps.length c] ∧ PartsRd w A ps ∧ bulkR ps ≤ Rows.uptoBulk x.1 := by
  rcases open_slice1 Try.underlying29 (by kernel_rfl) h with ⟨rfl, rfl⟩ | ⟨a, len, cap, m, n, V, D, Pl, rfl, _, hl, hm, hmm, rfl, hx⟩
  · exact ⟨[], none, 0, rfl, ⟨by simp, fun k hk => absurd hk (by simp)⟩, by simp [bulkR]⟩
  · have hlm : len ≤ m := by rw [hmm]; split <;> omega
    have hm' : cap ≤ 9223372036854775807 := by simpa [maxLen] using hm
    obtain ⟨f, hf⟩ := choose_lt (α := List Int) (p := fun i l => (∃ (Ak : Option Addr) (ck : Nat), w.cell? (a.add i) = some (.slice Ak l.length ck) ∧ l.length ≤ ck ∧ Rd w Ak l) ∧ l.length ≤ Rows.uptoBulk (D i)) (n := len) (fun i hi => by
      obtain ⟨h1, h2⟩ := hx i (by omega)
      obtain ⟨l, A, c, e, hc, hr, hb⟩ := open_bytes h2
      simp only [List.cons.injEq, and_true] at e
      rw [e] at h1
      exact ⟨l, ⟨A, c, h1, hc, hr⟩, hb⟩)
    refine ⟨(List.range len).map f, some a, cap, by simp, ⟨by simp; omega, fun k hk => ?_⟩, ?_⟩
    · have hk' : k < len := by simpa using hk
      obtain ⟨⟨Ak, ck, h1, h2, h3⟩, _⟩ := hf k hk'
      have e : ((List.range len).map f)[k] = f k := by simp
      rw [e]
      exact ⟨a, Ak, ck, rfl, h1, h2, h3⟩
    · have : ∀ q, q ≤ len → bulkR ((List.range q).map f) ≤ Rows.uptoBulkAll ((List.range q).map D) := by
        intro q
        induction q with
        | zero => simp [bulkR]
        | succ q ih =>
          intro hq
          rw [List.range_succ, List.map_append, List.map_append, bulkR_append, bulkAll_append]
          have := ih (by omega)
          have := (hf q (by omega)).2
          simp only [List.map_cons, List.map_nil, bulkR, Rows.uptoBulkAll]
          omega
      have := this len (Nat.le_refl _)
      simp only [Rows.uptoBulk]
      omega
theorem wf_i64 {n : Int} (h : (Lit.int .i64 n).wf = true) : -9223372036854775808 ≤ n ∧ n ≤ 9223372036854775807 := by
  simp [Lit.wf, IntKind.min, IntKind.max, IntKind.bits, IntKind.signed] at h
  omega
/-- an Act, read -/
theorem open_act {fuel : Nat} {cs : List Value} {x : DataW H × List MemPlace} (h : DataW.trod enc Try.prog w base spare held fuel 31 cs = some x) :
    ∃ (p : ActD) (A : Option Addr) (c : Nat), cs = [.int .i64 p.kind, .slice A p.parts.length c, .int .i64 p.a, .int .i64 p.b] ∧ PartsRd w A p.parts ∧ ActOk p ∧ bulkR p.parts + 1 ≤ Rows.uptoBulk x.1 := by
  obtain ⟨y0, y1, y2, y3, n, rfl, hl, h0, h1, h2, h3⟩ := trod_struct4 Try.underlying31 h
  have c31 : Try.prog.cellsOf 31 = 4 := by kernel_rfl
  have c3 : Try.prog.cellsOf 3 = 1 := by kernel_rfl
  have c29 : Try.prog.cellsOf 29 = 1 := by kernel_rfl
  rw [c31] at hl
  simp only [c3, c29] at h0 h1 h2 h3
  match cs, hl with
  | [a, b, c, d], _ =>
    simp only [List.drop_zero, List.drop_succ_cons, List.take_succ_cons, List.take_zero] at h0 h1 h2 h3
    obtain ⟨k, e0, rfl, w0⟩ := DataW.trod_int Try.underlying3 h0
    obtain ⟨ps, A, c', e1, hr, hb⟩ := open_parts h1
    obtain ⟨u, e2, rfl, w2⟩ := DataW.trod_int Try.underlying3 h2
    obtain ⟨i, e3, rfl, w3⟩ := DataW.trod_int Try.underlying3 h3
    simp only [List.cons.injEq, and_true] at e0 e1 e2 e3
    subst e0 e1 e2 e3
    have a0 := wf_i64 w0
    have a2 := wf_i64 w2
    have a3 := wf_i64 w3
    exact ⟨⟨k, ps, u, i⟩, A, c', rfl, hr, ⟨a0.1, a0.2, a2.1, a2.2, a3.1, a3.2⟩, by simp only [Rows.uptoBulk, Rows.uptoBulkAll] at hb ⊢; omega⟩
instance : Inhabited ActD := ⟨⟨0, [], 0, 0⟩⟩
/-- a list of Acts, read -/
theorem open_acts {fuel : Nat} {cs : List Value} {x : DataW H × List MemPlace} (h : DataW.trod enc Try.prog w base spare held fuel 22 cs = some x) :
    ∃ (ps : List ActD) (A : Option Addr) (c : Nat), cs = [.slice A ps.length c] ∧ ActsRd w A ps ∧ bulkD ps ≤ Rows.uptoBulk x.1 := by
  have c31 : Try.prog.cellsOf 31 = 4 := by kernel_rfl
  rcases open_slice Try.underlying22 h with ⟨rfl, rfl⟩ | ⟨a, len, cap, m, n, D, Pl, rfl, _, hl, hm, hmm, rfl, hx⟩
  · exact ⟨[], none, 0, rfl, ⟨by simp, fun k hk => absurd hk (by simp)⟩, by simp [bulkD]⟩
  · rw [c31] at hx
    have hm' : cap ≤ 9223372036854775807 := by simpa [maxLen] using hm
    have hlm : len ≤ m := by rw [hmm]; split <;> omega
    obtain ⟨f, hf⟩ := choose_lt (α := ActD) (p := fun i p => ActAt w (a.add (i * 4)) p ∧ bulkR p.parts + 1 ≤ Rows.uptoBulk (D i)) (n := len) (fun i hi => by
      obtain ⟨cs', h1, h2⟩ := hx i (by omega)
      obtain ⟨p, A, c, rfl, hr, hp, hb⟩ := open_act h2
      obtain ⟨_, _, hc⟩ := World.cells?_some h1
      have e : ∀ j, 0 < j → (a.add (i * 4)).add j = ⟨(a.add (i * 4)).block, (a.add (i * 4)).off + j, none⟩ := fun j hj => by
        unfold Addr.add
        split <;> split <;> simp_all
      refine ⟨p, ⟨A, c, ?_, ?_, ?_, ?_, hr, hp⟩, hb⟩
      · have := hc 0 (by omega); simpa [Addr.add] using this
      · have := hc 1 (by omega); rw [e 1 (by omega)] at this; simpa using this
      · have := hc 2 (by omega); rw [e 2 (by omega)] at this; simpa using this
      · have := hc 3 (by omega); rw [e 3 (by omega)] at this; simpa using this)
    refine ⟨(List.range len).map f, some a, cap, by simp, ⟨by simp; omega, fun k hk => ⟨a, rfl, ?_⟩⟩, ?_⟩
    · simp at hk
      simpa using (hf k hk).1
    · have : ∀ q, q ≤ len → bulkD ((List.range q).map f) ≤ Rows.uptoBulkAll ((List.range q).map D) := by
        intro q
        induction q with
        | zero => simp [bulkD]
        | succ q ih =>
          intro hq
          rw [List.range_succ, List.map_append, List.map_append, bulkD_append, bulkAll_append]
          have := ih (by omega)
          have := (hf q (by omega)).2
          simp only [List.map_cons, List.map_nil, bulkD, Rows.uptoBulkAll]
          omega
      have := this len (Nat.le_refl _)
      simp only [Rows.uptoBulk]
      omega
end

theorem own : ownKnob Try.prog.godebug = none := by kernel_rfl
theorem laidOut : laidOutB Try.prog = true := by kernel_rfl
theorem small_le {H : Type} {l : List (DataW H)} (hk : Rows.uptoSmall H l = true) : Rows.uptoBulkAll l ≤ 1048576 := of_decide_eq_true hk
set_option maxRecDepth 100000 in
theorem nil_lifted (os : Os) (started : os.Started) (H : Type) (enc : TypeId × Value → H) :
    ReturnsInHanded {} Try.checked os 5 .any (Rows.ductNilSpec.pre6 enc Try.prog Try.f5 Rows.ductNilRow.domain false) (Rows.ductNilSpec.post enc Try.prog Try.f5 false true false false) := by
  refine returnsInHanded_of_change (C := Try.checked) own started (by kernel_rfl) Try.func5
    (ChangeSpec.witness6 (enc := enc) (C := Try.checked) false ⟨#[], #[.slice none 0 0], []⟩ 8 (by kernel_rfl) (by kernel_rfl) (by kernel_rfl) (by kernel_rfl)) ?_
  intro W base args ds gs before hval0 hW hcnd _
  have hval : ∀ (j : Nat) t v, Try.f5.params[j]? = some t → args[j]? = some v → Value.okWide Try.prog W .any base t v := hval0
  have hW' := hW
  obtain ⟨p, q, hA0, hV, rfl, hfz, hnd⟩ := hW
  have hA : DataW.TrodAll enc Try.prog W 0 (fun _ => true) true Try.f5.params.toList args.toList ds p := hA0
  rw [Try.params5] at hA hval
  obtain ⟨v0, vs0, d0, ds0, p0, q0, hargs, rfl, rfl, h0, r0⟩ := trodAll_cons hA
  obtain ⟨rfl, rfl, rfl⟩ := trodAll_nil r0
  obtain rfl : args = #[v0] := by cases args; simp_all
  obtain ⟨rfl, rfl⟩ := trodVars_none hV
  have k0 := h0
  have lt0 : ∀ x ∈ p0, x.block < W.heap.size := by obtain ⟨m, hm⟩ := k0; exact DataW.trod_lt m _ _ _ hm
  obtain ⟨a0, len0, cap0, rfl⟩ := okWide_slice Try.underlying22 (hval 0 22 v0 rfl rfl)
  obtain ⟨ps, A, c, hcs, hr⟩ : ∃ (ps : List ActD) (A : Option Addr) (c : Nat), Value.slice a0 len0 cap0 = .slice A ps.length c ∧ ActsRd W A ps := by
    obtain ⟨fuel, hf⟩ := h0
    obtain ⟨ps, A, c, hcs, hr, hb⟩ := open_acts hf
    exact ⟨ps, A, c, by simpa [Value.cells] using hcs, hr⟩
  simp only [Value.slice.injEq] at hcs
  obtain ⟨rfl, rfl, rfl⟩ := hcs
  clear hA0 hval0
  refine (DuctNil_calls W _ _ ps hr).mono fun e W' ⟨he, bel⟩ => ?_
  subst he
  exact ⟨_, rfl, _, _, _, [], _, [], hW', trodAll_mk1 (shut_bool Try.underlying4 _), trodAll_cons_mk (Below.trod laidOut (by kernel_rfl) (of_decide_eq_true (by kernel_rfl)) k0 bel lt0) trodAll_mk0, rfl, bel.frame _, fun h => by cases h⟩
theorem nil_proved : Rows.DuctNilSaid :=
  OpenClaim.holds_of_wide 5 Try.f5 rfl rfl rfl rfl rfl rfl rfl ⟨rfl, rfl, rfl, rfl, rfl⟩ rfl rfl rfl rfl rfl (by kernel_rfl) Try.func5 (by kernel_rfl)
    (of_decide_eq_true (by kernel_rfl)) (by unfold Func.isWrapper; first | (rw [if_pos (by decide +kernel)]; kernel_rfl) | (rw [if_neg (by decide +kernel)]; exact ⟨rfl, rfl⟩))
    (fun os started H enc _ => nil_lifted os started H enc)
end Go.Proofs.Ytingiihboibcdaa.D
namespace Go.Proofs.Ytingiihboibcdaa
/-- The row, under a short name, for the claim. -/
theorem ductNil_holds : Rows.DuctNilSaid := D.nil_proved
#print axioms ductNil_holds
end Go.Proofs.Ytingiihboibcdaa
