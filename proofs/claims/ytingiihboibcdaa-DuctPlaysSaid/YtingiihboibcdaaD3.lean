/- Laws on append for layer duct, and the contracts of Peek and Read of a duct that New gave. -/
import Derived.Test.YtingiihboibcdaaD2
namespace Go.Proofs.Ytingiihboibcdaa.D
open Go.RowKit Go.Proofs.YtingiihboibcdaaW.PrintWords Go.Proofs.YtingiihboibcdaaW.PrintLast Go.Proofs.YtingiihboibcdaaW.PrintMore

/-- append(v, ys...) run -/
theorem app_run {W : World} {B : Nat} (ty : TypeId) (v : Value) (xs ys : List Int) (A : Option Addr) (c : Nat) (HO : Own W B v xs) (HR : Rd W A ys) (hbase : B ≤ W.heap.size) (hl : xs.length + ys.length ≤ 140737488355328) :
    ∃ v1 w1, (Builtin.append_ #[28, 28] ty #[v, .slice A ys.length c]).run Try.prog W = .ok v1 w1 ∧ Own w1 B v1 (xs ++ ys) ∧ W.grownBy w1 v.ownBlock ∧ Nx W v v1 := by
  obtain ⟨i0, hi, hzz⟩ := Option.map_eq_some_iff.1 info5
  simp only [Prod.mk.injEq] at hzz
  obtain ⟨hz0, hz1, hz2⟩ := hzz
  rcases A with _ | ad
  · have h0 : ys.length = 0 := by
      rcases Nat.eq_zero_or_pos ys.length with h0 | h0
      · exact h0
      · obtain ⟨ad, h, _⟩ := HR.2.2 h0
        cases h
    obtain rfl : ys = [] := List.eq_nil_of_length_eq_zero h0
    refine ⟨v, W, ?_, by simpa using HO, World.grownBy.refl W _, Nx.refl _ _⟩
    rcases HO.2 with ⟨rfl, hn⟩ | ⟨g, cap, cur, rfl, _, _, hnc, _⟩
    · simp [Builtin.append_, run_underlying Try.underlying28, sizeOf, typeInfo, hi, Builtin.lenOf, Builtin.firstCells]
    · simp [Builtin.append_, run_underlying Try.underlying28, sizeOf, typeInfo, hi, Builtin.lenOf, Builtin.firstCells, hnc, storeCells]
  · have hcells : ∀ j u, (nums .u8 ys)[j]? = some u → W.cell? (ad.add j) = some u := by
      intro j u hj
      have hjl : j < ys.length := by
        rcases Nat.lt_or_ge j ys.length with h' | h'
        · exact h'
        · rw [List.getElem?_eq_none (by rw [nums_length]; exact h')] at hj
          cases hj
      obtain ⟨ad', he', hc⟩ := HR.2.2 (by omega)
      injection he' with he'
      subst he'
      rw [hc j hjl]
      simp only [nums, List.getElem?_map, List.getElem?_eq_getElem hjl] at hj
      simp at hj
      subst hj
      simp [List.getD_eq_getElem?_getD, List.getElem?_eq_getElem hjl]
    obtain ⟨v1, w1, hr, hown, hg, _, hat⟩ := run_append_own_at (P := Try.prog) W B 28 ty 5 i0 (.int .u8 0) 1 1 Try.underlying28 hi hz0 hz1 hz2 rfl (by omega) v xs.length (nums .u8 xs) HO ad ys.length c (nums .u8 ys) (by simp [nums]) hcells (by intro u hu; simp only [nums, List.mem_map] at hu; obtain ⟨q, _, rfl⟩ := hu; rfl) (by simp only [maxLen]; omega) (by omega) hbase
    refine ⟨v1, w1, hr, ?_, hg, ?_⟩
    · unfold Own
      rw [List.length_append, nums_append]
      exact hown
    · rcases hat with hat | hat
      · intro k hk; left; rw [← hat]; exact hk
      · intro k hk; right; rw [hat] at hk; injection hk with hk; omega

section
variable {ops : Array Oper} {rest : List Oper} {o : Oper} {a : Act} {Q : Exit → Act → World → Prop} {K : Act → World → Prop}
/-- append(v, ys...) as one step of a region that draws its order -/
theorem step_app {W : World} {B : Nat} {E : Prop} (hgd : o.guard = none) (s x : Operand) (ho : o.op = .call { callee := .builtin .append, args := #[s, x], argTypes := #[28, 28] })
    (v : Value) (xs ys : List Int) (A : Option Addr) (c : Nat) (hs : a.eval s = v) (hx : a.eval x = .slice A ys.length c)
    (HO : Own W B v xs) (HR : Rd W A ys) (hbase : B ≤ W.heap.size) (hl : xs.length + ys.length ≤ 140737488355328)
    (h : ∀ v1 w1, Hid (Own w1 B v1 (xs ++ ys)) → Hid (W.grownBy w1 v.ownBlock) → Hid (Nx W v v1) → K (a.put o.dst v1) w1) :
    if Region.wanted o (yielded ops a.tmps) = true then Oper.wp Try.prog o a W K Q else E := by
  have hw : Region.wanted o (yielded ops a.tmps) = true := by simp [Region.wanted, hgd]
  rw [if_pos hw]
  obtain ⟨v1, w1, hr, h1, hg, hn⟩ := app_run o.type v xs ys A c HO HR hbase hl
  unfold Oper.wp execOp
  simp only [ho, resolve, invoke, builtin, Sem.run_bind, Sem.run_pure, Result.andThen_ok, List.map_toArray, List.map_cons, List.map_nil, hs, hx, hr]
  exact h v1 w1 h1 hg hn
/-- append(v, ys...) as one step of a list of operations -/
theorem list_app {W : World} {B : Nat} (hgd : o.guard = none) (s x : Operand) (ho : o.op = .call { callee := .builtin .append, args := #[s, x], argTypes := #[28, 28] })
    (v : Value) (xs ys : List Int) (A : Option Addr) (c : Nat) (hs : a.eval s = v) (hx : a.eval x = .slice A ys.length c)
    (HO : Own W B v xs) (HR : Rd W A ys) (hbase : B ≤ W.heap.size) (hl : xs.length + ys.length ≤ 140737488355328)
    (h : ∀ v1 w1, Hid (Own w1 B v1 (xs ++ ys)) → Hid (W.grownBy w1 v.ownBlock) → Hid (Nx W v v1) → wpList Try.prog ops Q rest (a.put o.dst v1) w1) :
    wpList Try.prog ops Q (o :: rest) a W := by
  refine wpList_plain hgd fun K' hK => ?_
  obtain ⟨v1, w1, hr, h1, hg, hn⟩ := app_run o.type v xs ys A c HO HR hbase hl
  unfold Oper.wp execOp
  simp only [ho, resolve, invoke, builtin, Sem.run_bind, Sem.run_pure, Result.andThen_ok, List.map_toArray, List.map_cons, List.map_nil, hs, hx, hr]
  exact hK _ _ (h v1 w1 h1 hg hn)
end

/-- make([]byte, 0, c) -/
theorem made_own (W : World) (base : Nat) (m c : Nat) (hb : base ≤ W.heap.size) (hmc : m ≤ c) (hm : c ≤ 9223372036854775807) :
    (W.alloc (.cells (madeCells #[.int .u8 0] c) 5)).ownsRow base 5 1 (.slice (some ⟨W.heap.size, 0, none⟩) m c) m (nums .u8 (List.replicate m 0)) := by
  have hl : (madeCells #[Value.int .u8 0] c).toList = nums .u8 (List.replicate c 0) := by
    apply List.ext_getElem
    · simp [nums, madeCells]
    · intro i h1 h2
      simp [nums, madeCells, Nat.mod_one]
  refine ⟨by simp [nums], .inr ⟨W.heap.size, c, madeCells #[.int .u8 0] c, rfl, hb, by simpa using heap_alloc_new W _, hmc, by simpa [maxLen] using hm, by simp [size_madeCells], ?_⟩⟩
  rw [hl]
  simp [nums, List.take_replicate]
  omega
theorem make_run (m c : Nat) (hmc : m ≤ c) (hn : c ≤ 281474976710656) (W : World) :
    (Instr.makeSlice 28 (.int .i64 (m : Int)) (.int .i64 (c : Int))).run Try.prog W = .ok (.slice (some ⟨W.heap.size, 0, none⟩) m c) (W.alloc (.cells (madeCells #[.int .u8 0] c) 5)) := by
  obtain ⟨i0, hi, hzz⟩ := Option.map_eq_some_iff.1 info5
  simp only [Prod.mk.injEq] at hzz
  obtain ⟨hz0, hz1, hz2⟩ := hzz
  have h := run_make (P := Try.prog) W 28 5 i0 (.int .u8 0) Try.underlying28 hi hz0 .i64 .i64 (m : Int) (c : Int) (by omega) (by omega) (by rw [hz2]; omega) (by omega)
  rw [hz1, show (Value.int .u8 0).cells = #[.int .u8 0] from rfl] at h
  simpa using h
/-- xs[:m], of a row that is read -/
theorem take_run (A : Option Addr) (c : Nat) (xs : List Int) (m : Nat) (hm : m ≤ xs.length) (hc : xs.length ≤ c) :
    (∀ W : World, (Instr.slice 28 (.slice A xs.length c) none (some (.int .i64 (m : Int))) none).run Try.prog W = .ok (.slice A (xs.take m).length c) W) ∧ ∀ w : World, Rd w A xs → Rd w A (xs.take m) := by
  obtain ⟨i0, hi, hzz⟩ := Option.map_eq_some_iff.1 info5
  simp only [Prod.mk.injEq] at hzz
  obtain ⟨r1, r2, -⟩ := print_take_int (k := .u8) 28 5 Try.underlying28 hi hzz.2.1 A c xs (m : Int) (by omega) (by omega) hc
  rw [Int.toNat_natCast] at r1 r2
  exact ⟨r1, r2⟩
/-- xs[m:], of a row that is read -/
theorem drop_run (A : Option Addr) (c : Nat) (xs : List Int) (m : Nat) (hm : m ≤ xs.length) (hc : xs.length ≤ c) :
    ∃ A' : Option Addr, (∀ W : World, (Instr.slice 28 (.slice A xs.length c) (some (.int .i64 (m : Int))) none none).run Try.prog W = .ok (.slice A' (xs.drop m).length (c - m)) W) ∧ ∀ w : World, Rd w A xs → Rd w A' (xs.drop m) := by
  obtain ⟨i0, hi, hzz⟩ := Option.map_eq_some_iff.1 info5
  simp only [Prod.mk.injEq] at hzz
  obtain ⟨A', r2, r3⟩ := print_cut_of (P := Try.prog) (Value.int .u8) (0 : Int) 28 5 .i64 Try.underlying28 hi hzz.2.1 A xs.length c m hm
  refine ⟨A', fun W => by rw [List.length_drop]; exact r2 W, fun w h => ?_⟩
  have := r3 w xs hc h
  show ReadsInt _ _ _ _ _
  rw [List.length_drop]
  exact this

variable (B gd gb : Nat) (v : Value) (D : DS) (w : World)
/-- what stands all along Peek's last statement -/
structure Pk (w W : World) (B gd gb : Nat) (v : Value) (D : DS) : Prop where
  d : Duct W B gd gb v D
  bel : Below w.heap.size w W
abbrev PkC (w W : World) (B gd gb : Nat) (v : Value) (D : DS) : Prop := W.cell? ⟨gd, 0, none⟩ = some (.pointer (some ⟨gb, 0, none⟩)) ∧ W.cell? ⟨gb, 0, none⟩ = some v ∧ Pk w W B gd gb v D
section
variable {B gd gb : Nat} {v : Value} {D : DS} {w W W' : World}
theorem PkC.of (h : Pk w W B gd gb v D) : PkC w W B gd gb v D := ⟨h.d.dcells.1, h.d.bcells.1, h⟩
theorem PkC.below (h : PkC w W B gd gb v D) (hb : Below W.heap.size W W') : PkC w W' B gd gb v D := PkC.of ⟨h.2.2.d.below hb, below_step h.2.2.bel hb⟩
theorem PkC.alloc (h : PkC w W B gd gb v D) (o : Obj) : PkC w (W.alloc o) B gd gb v D := h.below (below_alloc (Below.refl _ _) _)
theorem below_of_none (hg : W.grownBy W' none) : Below W.heap.size W W' := ⟨hg.os, hg.tape, hg.output, hg.size, fun k hk => hg.block k hk (by simp)⟩
end
set_option maxHeartbeats 400000 in
theorem Peek_calls (n : Int) (h : Duct w B gd gb v D) :
    Calls Try.prog 14 #[.pointer (some ⟨gd, 0, none⟩), .int .i64 n] w fun e w' => ∃ v', e = .returned v' ∧ Own w' w.heap.size v' (D.held.take (firstN D n)) ∧ Below w.heap.size w w' := by
  have hk := firstN_le D n
  have hfc := first_calls B gd gb v D w n h
  obtain ⟨k, hkk⟩ : ∃ k, k = firstN D n := ⟨_, rfl⟩
  rw [← hkk] at hfc hk ⊢
  clear hkk
  have hF := Lib.hid hfc
  clear hfc
  by_cases h0 : k = 0
  · subst h0
    go_enter Try.func14, Try.ntmps14
    go_wp2_with (first | (go_at_call 27; go_must (refine hF.out.mono ?_); rintro e w' ⟨rfl, rfl⟩))
    go_ret
    exact ⟨_, rfl, own_nil _ _ _ _, Below.refl _ _⟩
  · have h1 : ((k : Int) == 0) = false := by rw [beq_eq_false_iff_ne]; omega
    have ok := h.ok
    have hr1 := ok.r1
    have hh1 := ok.h1
    obtain ⟨A, c, rfl, hrd⟩ := h.slice
    have hcap : D.held.length ≤ c := own_cap h.o
    have hmk : ∀ W, (Instr.makeSlice 28 (.int .i64 0) (.int .i64 (k : Int))).run Try.prog W = _ := make_run 0 k (by omega) (by omega)
    obtain ⟨hsl, hsr⟩ := take_run A c D.held k hk hcap
    have HSR := Lib.hid hsr
    have hll : (D.held.take k).length ≤ 4194304 := by rw [List.length_take]; omega
    obtain ⟨Y, hY⟩ : ∃ Y, Y = D.held.take k := ⟨_, rfl⟩
    rw [← hY] at hsl HSR hll ⊢
    replace hY := Lib.hid hY
    have hP : PkC w (w.drewN 1) B gd gb _ D := PkC.of ⟨h.drewN 1, pw_below_drewN (Below.refl _ _) 1⟩
    have HH := Lib.hid h
    clear hsr hrd h ok
    go_enter Try.func14, Try.ntmps14
    go_wp2_with (first | (go_at_call 27; go_must (refine hF.out.mono ?_); rintro e w' ⟨rfl, rfl⟩))
    obtain ⟨q0, q1, -⟩ := hP
    go_region_held3 (fun W => W.cell? ⟨gd, 0, none⟩ = some (.pointer (some ⟨gb, 0, none⟩)) ∧ W.cell? ⟨gb, 0, none⟩ = some (.slice A D.held.length c) ∧ Pk w W B gd gb (.slice A D.held.length c) D) (first | assumption | exact PkC.alloc (by assumption) _ | exact PkC.of ⟨HH.out.drewN 1, pw_below_drewN (Below.refl _ _) 1⟩) (first
      | (have hS := (by assumption : PkC w _ B gd gb (.slice A D.held.length c) D); refine step_app (B := w.heap.size) rfl (.tmp 11) (.tmp 20) rfl (.slice (some ⟨w.heap.size, 0, none⟩) 0 k) [] Y A c rfl rfl (made_own w _ 0 k (Nat.le_refl _) (by omega) (by omega)) (HSR.out _ (own_reads' hS.2.2.d.o)) hS.2.2.bel.size (by simp; omega) ?_; intro v1 w1 ho hg hn; have hb1 : Below w.heap.size w w1 := hS.2.2.bel.grown hg.out hS.2.2.bel.size (fun q hq => by injection hq with hq; exact Nat.le_of_eq hq); have hS2 : PkC w w1 B gd gb (.slice A D.held.length c) D := PkC.of ⟨HH.out.below hb1, hb1⟩; clear hS hg hn))
    go_wp2
    go_ret
    exact ⟨_, rfl, ho.out, hb1⟩

end Go.Proofs.Ytingiihboibcdaa.D
