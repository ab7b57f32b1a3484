/- The contracts of the document's Put. -/
import Derived.Test.YtecgbhiebaiokaaK3
namespace Go.Proofs.Ytecgbhiebaiokaa.G
open Go.RowKit Go.Proofs.YtecgbhiebaiokaaW.PrintWords Go.Proofs.YtecgbhiebaiokaaW.PrintLast Go.Proofs.YtecgbhiebaiokaaW.PrintMore
set_option linter.unusedSimpArgs false
set_option linter.unusedVariables false
theorem lastKey {k x l : Int} {M5 M6 : KV} {q : Nat} {hq : q < M6.length} (h : M6 = [(k, x)] ++ M5) (hq2 : q = M5.length) (hl : (M5.getLast?).map (·.1) = some l) : M6[q].1 = l := by
  subst h
  have hne : M5 ≠ [] := by
    rintro rfl
    simp at hl
  have h1 : 1 ≤ M5.length := by
    cases M5 with
    | nil => exact absurd rfl hne
    | cons a b => simp
  obtain ⟨p, hp⟩ : ∃ p, q = p + 1 := ⟨q - 1, by omega⟩
  subst hp
  simp only [List.singleton_append, List.getElem_cons_succ]
  rw [List.getLast?_eq_getElem?, show M5.length - 1 = p from by omega, List.getElem?_eq_getElem (by omega)] at hl
  simpa using hl
theorem front_drop {k x : Int} {M5 : KV} : ([(k, x)] ++ M5).eraseIdx M5.length = ((k, x) :: M5).dropLast := by
  have := List.eraseIdx_length_sub_one (l := [(k, x)] ++ M5)
  rw [show ([(k, x)] ++ M5).length - 1 = M5.length from by simp] at this
  exact this
section
variable {ops : Array Oper} {rest : List Oper} {o : Oper} {a : Act} {Q : Exit → Act → World → Prop}
/-- append(v, ys...) as one step of a list of operations, where its run is known -/
theorem list_run {W W1 : World} {v u v1 : Value} (t : TypeId) (hw : Region.wanted o (yielded ops a.tmps) = true) (s x : Operand) (ho : o.op = .call { callee := .builtin .append, args := #[s, x], argTypes := #[t, t] })
    (hs : a.eval s = v) (hx : a.eval x = u) (hr : (Builtin.append_ #[t, t] o.type #[v, u]).run Try.prog W = .ok v1 W1)
    (h : wpList Try.prog ops Q rest (a.put o.dst v1) W1) :
    wpList Try.prog ops Q (o :: rest) a W := by
  refine wpList_step fun K' hK => ?_
  rw [if_pos hw]
  unfold Oper.wp execOp
  simp only [ho, resolve, invoke, builtin, Sem.run_bind, Sem.run_pure, Result.andThen_ok, List.map_toArray, List.map_cons, List.map_nil, hs, hx, hr]
  exact hK _ _ h
end
section
variable (w : World) (B gq : Nat) (sz h m g : Int) (v : Value) (M : KV) (k x : Int)
set_option maxHeartbeats 4000000 in
theorem RPut_hit (r : RM w B gq sz h m g v M) (hln : M.length ≤ 4096) (hu : KUniq M) (i : Nat) (hi : i < M.length) (hik : M[i].1 = k) (hsz : (M.length : Int) ≤ sz) :
    Calls Try.prog 34 #[.pointer (some ⟨gq, 0, none⟩), .int .i64 k, .int .i64 x] w fun e w' => e = .returned (.tuple #[.int .i64 0, .bool false]) ∧ ∃ v', RM w' B gq sz h m g v' ((k, x) :: M.eraseIdx i) ∧ Chg w w' (fun q => q = gq) := by
  have hat := Lib.hid (at_hit w B gq sz h m g v M k r hu i hi hik)
  have R0 := Lib.hid r
  have hM5l : (M.eraseIdx i).length + 1 = M.length := by rw [List.length_eraseIdx, if_pos hi]; omega
  clear r hik hu
  go_enter Try.func34, Try.ntmps34
  go_wp2_with (first | (go_at_call 37; go_must (refine hat.out.mono ?_); rintro e w' ⟨rfl, rfl⟩))
  refine (without_calls w B gq sz h m g v M R0.out i hi).mono ?_
  rintro e w4 ⟨v4, rfl, ho4, hb4⟩
  have hR4 := R0.out.below hb4
  replace ho4 := own_weaken ho4 (Nat.le_trans R0.out.b (Nat.le_of_lt (blk_lt R0.out.q)))
  obtain ⟨M5, hM5⟩ : ∃ M5, M5 = M.eraseIdx i := ⟨_, rfl⟩
  rw [← hM5] at ho4 hM5l
  replace hM5 := Lib.hid hM5
  obtain ⟨A5, c5, rfl, -, -⟩ := OwnP.rd ho4
  have p1 := blk_cell hR4.q 1
  have pf1 := blk_frozen hR4.q 1
  simp only [List.getElem?_toArray, List.getElem?_cons_zero, List.getElem?_cons_succ] at p1
  have R5 := hR4.setL ho4 (by omega)
  have C5 := Lib.hid ((Chg.of_below hb4 (fun q => q = gq)).set_ (p := ⟨gq, 1, none⟩) rfl (.slice A5 M5.length c5))
  have hBW5 : B ≤ (World.heap (w4.setCell ⟨gq, 1, none⟩ (.slice A5 M5.length c5))).size := Nat.le_trans (Nat.le_trans R0.out.b (Nat.le_of_lt (blk_lt R0.out.q))) C5.out.size
  have hrd5 : RdC (w4.setCell ⟨gq, 1, none⟩ (.slice A5 M5.length c5)) A5 M5 := by
    obtain ⟨A', c', he, -, hrd⟩ := R5.o.rd
    injection he with he1 he2 he3
    subst he1
    exact hrd
  have o1 := blk_cell R5.q 1
  simp only [List.getElem?_toArray, List.getElem?_cons_zero, List.getElem?_cons_succ] at o1
  have o1' : World.cell? (World.alloc (w4.setCell ⟨gq, 1, none⟩ (.slice A5 M5.length c5)) (.cells #[.int .i64 k, .int .i64 x] 56)) ⟨gq, 1, none⟩ = some (.slice A5 M5.length c5) := blk_cell (R5.below (below_alloc (Below.refl _ _) (.cells #[.int .i64 k, .int .i64 x] 56))).q 1
  replace R5 := Lib.hid R5
  replace hrd5 := Lib.hid hrd5
  replace ho4 := Lib.hid ho4
  clear hR4 hb4
  have hbA : Below (World.heap (w4.setCell ⟨gq, 1, none⟩ (.slice A5 M5.length c5))).size (w4.setCell ⟨gq, 1, none⟩ (.slice A5 M5.length c5)) (World.alloc (w4.setCell ⟨gq, 1, none⟩ (.slice A5 M5.length c5)) (.cells #[.int .i64 k, .int .i64 x] 56)) := below_alloc (Below.refl _ _) _
  have hRA := Lib.hid (R5.out.below hbA)
  have hlit : Hid (OwnP (World.alloc (w4.setCell ⟨gq, 1, none⟩ (.slice A5 M5.length c5)) (.cells #[.int .i64 k, .int .i64 x] 56)) (World.heap (w4.setCell ⟨gq, 1, none⟩ (.slice A5 M5.length c5))).size (.slice (some ⟨(World.heap (w4.setCell ⟨gq, 1, none⟩ (.slice A5 M5.length c5))).size, 0, none⟩) 1 1) [(k, x)]) := own_pair _ _ _ _ (Nat.le_refl _)
  obtain ⟨v6, w6, hr6, ho6, hg6, -⟩ := run_appP (W := World.alloc (w4.setCell ⟨gq, 1, none⟩ (.slice A5 M5.length c5)) (.cells #[.int .i64 k, .int .i64 x] 56)) (A := A5) (c := c5) hlit.out (RdC.below hrd5.out hbA) hbA.size (by rw [List.length_singleton]; have := R5.out.ln; omega) 45
  have hb6 : Hid (Below (World.heap (w4.setCell ⟨gq, 1, none⟩ (.slice A5 M5.length c5))).size (w4.setCell ⟨gq, 1, none⟩ (.slice A5 M5.length c5)) w6) := hbA.grown hg6 hbA.size (own_base hlit.out)
  have hR6 : Hid (RM w6 B gq sz h m g (.slice A5 M5.length c5) M5) := R5.out.below hb6.out
  obtain ⟨M6, hM6⟩ : ∃ M6, M6 = [(k, x)] ++ M5 := ⟨_, rfl⟩
  rw [← hM6] at ho6
  replace ho6 := own_weaken ho6 hBW5
  have hM6l : M6.length = M5.length + 1 := by rw [hM6]; simp
  replace hM6 := Lib.hid hM6
  obtain ⟨A6, c6, rfl, -, hrd6⟩ := OwnP.rd ho6
  have g1 := blk_cell hR6.out.q 1
  have gf1 := blk_frozen hR6.out.q 1
  simp only [List.getElem?_toArray, List.getElem?_cons_zero, List.getElem?_cons_succ] at g1
  rw [show (World.heap (w4.setCell ⟨gq, 1, none⟩ (.slice A5 M5.length c5))).size = w4.heap.size from by simp [World.setCell]] at hr6
  have hrun6 : (Builtin.append_ #[45, 45] 45 #[.slice (some ⟨w4.heap.size, 0, none⟩) 1 1, .slice A5 M5.length c5]).run Try.prog (World.alloc (w4.setCell ⟨gq, 1, none⟩ (.slice A5 M5.length c5)) (.cells #[.int .i64 k, .int .i64 x] 56)) = .ok (.slice A6 M6.length c6) w6 := hr6
  have hR7 : RM (w6.setCell ⟨gq, 1, none⟩ (.slice A6 M6.length c6)) B gq sz h m g (.slice A6 M6.length c6) M6 := hR6.out.setL ho6 (by omega)
  have hC7 : Hid (Chg w (w6.setCell ⟨gq, 1, none⟩ (.slice A6 M6.length c6)) (fun q => q = gq)) := (C5.out.trans (Chg.of_below hb6.out (fun q => False)) (fun _ _ h => h.elim)).set_ (p := ⟨gq, 1, none⟩) rfl _
  have hrd7 : RdC (w6.setCell ⟨gq, 1, none⟩ (.slice A6 M6.length c6)) A6 M6 := by
    obtain ⟨A', c', he, -, hrd⟩ := hR7.o.rd
    injection he with he1 he2 he3
    subst he1
    exact hrd
  replace hM6l := Lib.hid hM6l
  replace ho6 := Lib.hid ho6
  replace hrd6 := Lib.hid hrd6
  replace hR7 := Lib.hid hR7
  replace hrd7 := Lib.hid hrd7
  replace hg6 := Lib.hid hg6
  replace hbA := Lib.hid hbA
  clear hr6
  go_wp2_with ((with_reducible refine gate_builtin (b := .append) (xs := #[.tmp 25, .tmp 29]) rfl ?_); go_must (refine list_run 45 (by rfl) (.tmp 25) (.tmp 29) rfl rfl rfl hrun6 ?_))
  obtain ⟨w7, hw7⟩ : ∃ w7, w7 = w6.setCell ⟨gq, 1, none⟩ (.slice A6 M6.length c6) := ⟨_, rfl⟩
  rw [← hw7] at hR7 hC7 hrd7 ⊢
  clear hw7 hrun6 g1 gf1 hb6 hR6 hRA hlit
  have y1 : w7.cell? ⟨gq, 1, none⟩ = some (.slice A6 M6.length c6) := blk_cell hR7.out.q 1
  have y0 : w7.cell? ⟨gq, 0, none⟩ = some (.int .i64 sz) := blk_cell hR7.out.q 0
  have hle : decide ((M6.length : Int) ≤ sz) = true := by have := hM6l.out; simp; omega
  refine start_ (n := 10) (S := fun w' => w'.cell? ⟨gq, 1, none⟩ = some (.slice A6 M6.length c6) ∧ w'.cell? ⟨gq, 0, none⟩ = some (.int .i64 sz)) (ds := []) #[false, false, false, false, false, false, false, false, false, false] (by kernel_rfl) rfl rfl ⟨y1, y0⟩ (fun hHeld => ?_)
  refine pure_ (i := 0) (N := some 33) (v := ?_) (a' := ?_) #[true, false, false, false, false, false, false, false, false, false] rfl rfl (by kernel_rfl) (fun _ _ _ h => h) (Or.inl ⟨by rfl, ?_⟩) ?_ ?_
  rotate_left
  · intro w'
    go_simp
    with_reducible rfl
  rotate_left
  · simp only [Act.put, List.setIfInBounds_toArray, List.set_cons_zero, List.set_cons_succ, i64_w, i32_w]
    rfl
  refine pure_ (i := 1) (N := some 34) (v := ?_) (a' := ?_) #[true, true, false, false, false, false, false, false, false, false] rfl rfl (by kernel_rfl) (fun _ _ _ h => h) (Or.inl ⟨by rfl, ?_⟩) ?_ ?_
  rotate_left
  · intro w'
    go_simp
    with_reducible rfl
  rotate_left
  · simp only [Act.put, List.setIfInBounds_toArray, List.set_cons_zero, List.set_cons_succ, i64_w, i32_w]
    rfl
  refine pure_ (i := 2) (N := some 35) (v := ?_) (a' := ?_) #[true, true, true, false, false, false, false, false, false, false] rfl rfl (by kernel_rfl) (fun _ _ _ h => h) (Or.inl ⟨by rfl, ?_⟩) ?_ ?_
  rotate_left
  · intro w'
    go_simp
    with_reducible rfl
  rotate_left
  · simp only [Act.put, List.setIfInBounds_toArray, List.set_cons_zero, List.set_cons_succ, i64_w, i32_w]
    rfl
  refine pure_ (i := 5) (N := some 38) (v := ?_) (a' := ?_) #[true, true, true, false, false, true, false, false, false, false] rfl rfl (by kernel_rfl) (fun _ _ _ h => h) (Or.inl ⟨by rfl, ?_⟩) ?_ ?_
  rotate_left
  · intro w'
    go_simp
    with_reducible rfl
  rotate_left
  · simp only [Act.put, List.setIfInBounds_toArray, List.set_cons_zero, List.set_cons_succ, i64_w, i32_w]
    rfl
  refine pure_ (i := 6) (N := some 39) (v := ?_) (a' := ?_) #[true, true, true, false, false, true, true, false, false, false] rfl rfl (by kernel_rfl) (fun _ _ _ h => h) (Or.inl ⟨by rfl, ?_⟩) ?_ ?_
  rotate_left
  · intro w'
    go_simp
    with_reducible rfl
  rotate_left
  · simp only [Act.put, List.setIfInBounds_toArray, List.set_cons_zero, List.set_cons_succ, i64_w, i32_w]
    rfl
  refine pure_ (i := 7) (N := some 40) (v := ?_) (a' := ?_) #[true, true, true, false, false, true, true, true, false, false] rfl rfl (by kernel_rfl) (fun _ _ _ h => h) (Or.inl ⟨by rfl, ?_⟩) ?_ ?_
  rotate_left
  · intro w'
    go_simp
    with_reducible rfl
  rotate_left
  · simp only [Act.put, List.setIfInBounds_toArray, List.set_cons_zero, List.set_cons_succ, i64_w, i32_w]
    rfl
  refine take_ (i := 3) (N := some 36) (v := ?_) (a' := ?_) #[true, true, true, true, false, true, true, true, false, false] rfl rfl (by kernel_rfl) (fun _ _ _ h => h) (Or.inl ⟨by rfl, ?_⟩) hHeld ?_ ?_
  rotate_left
  · rintro w' ⟨s0, s1⟩
    go_simp
    with_reducible rfl
  rotate_left
  · simp only [Act.put, List.setIfInBounds_toArray, List.set_cons_zero, List.set_cons_succ, i64_w, i32_w]
    rfl
  refine pure_ (i := 4) (N := some 37) (v := ?_) (a' := ?_) #[true, true, true, true, true, true, true, true, false, false] rfl rfl (by kernel_rfl) (fun _ _ _ h => h) (Or.inl ⟨by rfl, ?_⟩) ?_ ?_
  rotate_left
  · intro w'
    go_simp
    with_reducible rfl
  rotate_left
  · simp only [Act.put, List.setIfInBounds_toArray, List.set_cons_zero, List.set_cons_succ, i64_w, i32_w]
    rfl
  refine take_ (i := 8) (N := some 41) (v := ?_) (a' := ?_) #[true, true, true, true, true, true, true, true, true, false] rfl rfl (by kernel_rfl) (fun _ _ _ h => h) (Or.inl ⟨by rfl, ?_⟩) hHeld ?_ ?_
  rotate_left
  · rintro w' ⟨s0, s1⟩
    go_simp
    with_reducible rfl
  rotate_left
  · simp only [Act.put, List.setIfInBounds_toArray, List.set_cons_zero, List.set_cons_succ, i64_w, i32_w]
    rfl
  refine pure_ (i := 9) (N := some 42) (v := ?_) (a' := ?_) #[true, true, true, true, true, true, true, true, true, true] rfl rfl (by kernel_rfl) (fun _ _ _ h => h) (Or.inl ⟨by rfl, ?_⟩) ?_ ?_
  rotate_left
  · intro w'
    go_simp
    with_reducible rfl
  rotate_left
  · simp only [Act.put, List.setIfInBounds_toArray, List.set_cons_zero, List.set_cons_succ, i64_w, i32_w]
    rfl
  refine done_ (by kernel_rfl) ?_
  clear hHeld
  go_wp2_with fail
  go_ret2
  refine ⟨rfl, .slice A6 M6.length c6, ?_, hC7.out.drewN 1⟩
  have := hR7.out.drewN 1
  rw [hM6.out, hM5.out] at this
  rw [hM6.out, hM5.out]
  exact this
set_option maxHeartbeats 4000000 in
theorem RPut_room (r : RM w B gq sz h m g v M) (hln : M.length ≤ 4096) (hh : kvHas k M = false) (hsz : (M.length : Int) < sz) :
    Calls Try.prog 34 #[.pointer (some ⟨gq, 0, none⟩), .int .i64 k, .int .i64 x] w fun e w' => e = .returned (.tuple #[.int .i64 0, .bool false]) ∧ ∃ v', RM w' B gq sz h m g v' ((k, x) :: M) ∧ Chg w w' (fun q => q = gq) := by
  have hat := Lib.hid (at_miss w B gq sz h m g v M k r hh)
  have R0 := Lib.hid r
  have hBW5 : B ≤ (World.heap w).size := Nat.le_trans r.b (Nat.le_of_lt (blk_lt r.q))
  obtain ⟨M5, hM5⟩ : ∃ M5, M5 = M := ⟨_, rfl⟩
  subst hM5
  obtain ⟨A5, c5, rfl, -, hrd5⟩ := r.o.rd
  have o1 : w.cell? ⟨gq, 1, none⟩ = some (.slice A5 M5.length c5) := blk_cell r.q 1
  have o1' : World.cell? (World.alloc w (.cells #[.int .i64 k, .int .i64 x] 56)) ⟨gq, 1, none⟩ = some (.slice A5 M5.length c5) := blk_cell (r.below (below_alloc (Below.refl _ _) (.cells #[.int .i64 k, .int .i64 x] 56))).q 1
  have R5 := Lib.hid r
  have C5 := Lib.hid (Chg.refl w (fun q => q = gq))
  replace hrd5 := Lib.hid hrd5
  clear r hh
  have hbA : Below (World.heap w).size w (World.alloc w (.cells #[.int .i64 k, .int .i64 x] 56)) := below_alloc (Below.refl _ _) _
  have hRA := Lib.hid (R5.out.below hbA)
  have hlit : Hid (OwnP (World.alloc w (.cells #[.int .i64 k, .int .i64 x] 56)) (World.heap w).size (.slice (some ⟨(World.heap w).size, 0, none⟩) 1 1) [(k, x)]) := own_pair _ _ _ _ (Nat.le_refl _)
  obtain ⟨v6, w6, hr6, ho6, hg6, -⟩ := run_appP (W := World.alloc w (.cells #[.int .i64 k, .int .i64 x] 56)) (A := A5) (c := c5) hlit.out (RdC.below hrd5.out hbA) hbA.size (by rw [List.length_singleton]; have := R5.out.ln; omega) 45
  have hb6 : Hid (Below (World.heap w).size w w6) := hbA.grown hg6 hbA.size (own_base hlit.out)
  have hR6 : Hid (RM w6 B gq sz h m g (.slice A5 M5.length c5) M5) := R5.out.below hb6.out
  obtain ⟨M6, hM6⟩ : ∃ M6, M6 = [(k, x)] ++ M5 := ⟨_, rfl⟩
  rw [← hM6] at ho6
  replace ho6 := own_weaken ho6 hBW5
  have hM6l : M6.length = M5.length + 1 := by rw [hM6]; simp
  replace hM6 := Lib.hid hM6
  obtain ⟨A6, c6, rfl, -, hrd6⟩ := OwnP.rd ho6
  have g1 := blk_cell hR6.out.q 1
  have gf1 := blk_frozen hR6.out.q 1
  simp only [List.getElem?_toArray, List.getElem?_cons_zero, List.getElem?_cons_succ] at g1
  have hrun6 : (Builtin.append_ #[45, 45] 45 #[.slice (some ⟨(World.heap w).size, 0, none⟩) 1 1, .slice A5 M5.length c5]).run Try.prog (World.alloc w (.cells #[.int .i64 k, .int .i64 x] 56)) = .ok (.slice A6 M6.length c6) w6 := hr6
  have hR7 : RM (w6.setCell ⟨gq, 1, none⟩ (.slice A6 M6.length c6)) B gq sz h m g (.slice A6 M6.length c6) M6 := hR6.out.setL ho6 (by omega)
  have hC7 : Hid (Chg w (w6.setCell ⟨gq, 1, none⟩ (.slice A6 M6.length c6)) (fun q => q = gq)) := (C5.out.trans (Chg.of_below hb6.out (fun q => False)) (fun _ _ h => h.elim)).set_ (p := ⟨gq, 1, none⟩) rfl _
  have hrd7 : RdC (w6.setCell ⟨gq, 1, none⟩ (.slice A6 M6.length c6)) A6 M6 := by
    obtain ⟨A', c', he, -, hrd⟩ := hR7.o.rd
    injection he with he1 he2 he3
    subst he1
    exact hrd
  replace hM6l := Lib.hid hM6l
  replace ho6 := Lib.hid ho6
  replace hrd6 := Lib.hid hrd6
  replace hR7 := Lib.hid hR7
  replace hrd7 := Lib.hid hrd7
  replace hg6 := Lib.hid hg6
  replace hbA := Lib.hid hbA
  clear hr6
  go_enter Try.func34, Try.ntmps34
  go_wp2_with (first | (go_at_call 37; go_must (refine hat.out.mono ?_); rintro e w' ⟨rfl, rfl⟩) | ((with_reducible refine gate_builtin (b := .append) (xs := #[.tmp 25, .tmp 29]) rfl ?_); go_must (refine list_run 45 (by rfl) (.tmp 25) (.tmp 29) rfl rfl rfl hrun6 ?_)))
  obtain ⟨w7, hw7⟩ : ∃ w7, w7 = w6.setCell ⟨gq, 1, none⟩ (.slice A6 M6.length c6) := ⟨_, rfl⟩
  rw [← hw7] at hR7 hC7 hrd7 ⊢
  clear hw7 hrun6 g1 gf1 hb6 hR6 hRA hlit
  have y1 : w7.cell? ⟨gq, 1, none⟩ = some (.slice A6 M6.length c6) := blk_cell hR7.out.q 1
  have y0 : w7.cell? ⟨gq, 0, none⟩ = some (.int .i64 sz) := blk_cell hR7.out.q 0
  have hle : decide ((M6.length : Int) ≤ sz) = true := by have := hM6l.out; simp; omega
  refine start_ (n := 10) (S := fun w' => w'.cell? ⟨gq, 1, none⟩ = some (.slice A6 M6.length c6) ∧ w'.cell? ⟨gq, 0, none⟩ = some (.int .i64 sz)) (ds := []) #[false, false, false, false, false, false, false, false, false, false] (by kernel_rfl) rfl rfl ⟨y1, y0⟩ (fun hHeld => ?_)
  refine pure_ (i := 0) (N := some 33) (v := ?_) (a' := ?_) #[true, false, false, false, false, false, false, false, false, false] rfl rfl (by kernel_rfl) (fun _ _ _ h => h) (Or.inl ⟨by rfl, ?_⟩) ?_ ?_
  rotate_left
  · intro w'
    go_simp
    with_reducible rfl
  rotate_left
  · simp only [Act.put, List.setIfInBounds_toArray, List.set_cons_zero, List.set_cons_succ, i64_w, i32_w]
    rfl
  refine pure_ (i := 1) (N := some 34) (v := ?_) (a' := ?_) #[true, true, false, false, false, false, false, false, false, false] rfl rfl (by kernel_rfl) (fun _ _ _ h => h) (Or.inl ⟨by rfl, ?_⟩) ?_ ?_
  rotate_left
  · intro w'
    go_simp
    with_reducible rfl
  rotate_left
  · simp only [Act.put, List.setIfInBounds_toArray, List.set_cons_zero, List.set_cons_succ, i64_w, i32_w]
    rfl
  refine pure_ (i := 2) (N := some 35) (v := ?_) (a' := ?_) #[true, true, true, false, false, false, false, false, false, false] rfl rfl (by kernel_rfl) (fun _ _ _ h => h) (Or.inl ⟨by rfl, ?_⟩) ?_ ?_
  rotate_left
  · intro w'
    go_simp
    with_reducible rfl
  rotate_left
  · simp only [Act.put, List.setIfInBounds_toArray, List.set_cons_zero, List.set_cons_succ, i64_w, i32_w]
    rfl
  refine pure_ (i := 5) (N := some 38) (v := ?_) (a' := ?_) #[true, true, true, false, false, true, false, false, false, false] rfl rfl (by kernel_rfl) (fun _ _ _ h => h) (Or.inl ⟨by rfl, ?_⟩) ?_ ?_
  rotate_left
  · intro w'
    go_simp
    with_reducible rfl
  rotate_left
  · simp only [Act.put, List.setIfInBounds_toArray, List.set_cons_zero, List.set_cons_succ, i64_w, i32_w]
    rfl
  refine pure_ (i := 6) (N := some 39) (v := ?_) (a' := ?_) #[true, true, true, false, false, true, true, false, false, false] rfl rfl (by kernel_rfl) (fun _ _ _ h => h) (Or.inl ⟨by rfl, ?_⟩) ?_ ?_
  rotate_left
  · intro w'
    go_simp
    with_reducible rfl
  rotate_left
  · simp only [Act.put, List.setIfInBounds_toArray, List.set_cons_zero, List.set_cons_succ, i64_w, i32_w]
    rfl
  refine pure_ (i := 7) (N := some 40) (v := ?_) (a' := ?_) #[true, true, true, false, false, true, true, true, false, false] rfl rfl (by kernel_rfl) (fun _ _ _ h => h) (Or.inl ⟨by rfl, ?_⟩) ?_ ?_
  rotate_left
  · intro w'
    go_simp
    with_reducible rfl
  rotate_left
  · simp only [Act.put, List.setIfInBounds_toArray, List.set_cons_zero, List.set_cons_succ, i64_w, i32_w]
    rfl
  refine take_ (i := 3) (N := some 36) (v := ?_) (a' := ?_) #[true, true, true, true, false, true, true, true, false, false] rfl rfl (by kernel_rfl) (fun _ _ _ h => h) (Or.inl ⟨by rfl, ?_⟩) hHeld ?_ ?_
  rotate_left
  · rintro w' ⟨s0, s1⟩
    go_simp
    with_reducible rfl
  rotate_left
  · simp only [Act.put, List.setIfInBounds_toArray, List.set_cons_zero, List.set_cons_succ, i64_w, i32_w]
    rfl
  refine pure_ (i := 4) (N := some 37) (v := ?_) (a' := ?_) #[true, true, true, true, true, true, true, true, false, false] rfl rfl (by kernel_rfl) (fun _ _ _ h => h) (Or.inl ⟨by rfl, ?_⟩) ?_ ?_
  rotate_left
  · intro w'
    go_simp
    with_reducible rfl
  rotate_left
  · simp only [Act.put, List.setIfInBounds_toArray, List.set_cons_zero, List.set_cons_succ, i64_w, i32_w]
    rfl
  refine take_ (i := 8) (N := some 41) (v := ?_) (a' := ?_) #[true, true, true, true, true, true, true, true, true, false] rfl rfl (by kernel_rfl) (fun _ _ _ h => h) (Or.inl ⟨by rfl, ?_⟩) hHeld ?_ ?_
  rotate_left
  · rintro w' ⟨s0, s1⟩
    go_simp
    with_reducible rfl
  rotate_left
  · simp only [Act.put, List.setIfInBounds_toArray, List.set_cons_zero, List.set_cons_succ, i64_w, i32_w]
    rfl
  refine pure_ (i := 9) (N := some 42) (v := ?_) (a' := ?_) #[true, true, true, true, true, true, true, true, true, true] rfl rfl (by kernel_rfl) (fun _ _ _ h => h) (Or.inl ⟨by rfl, ?_⟩) ?_ ?_
  rotate_left
  · intro w'
    go_simp
    with_reducible rfl
  rotate_left
  · simp only [Act.put, List.setIfInBounds_toArray, List.set_cons_zero, List.set_cons_succ, i64_w, i32_w]
    rfl
  refine done_ (by kernel_rfl) ?_
  clear hHeld
  go_wp2_with fail
  go_ret2
  refine ⟨rfl, .slice A6 M6.length c6, ?_, hC7.out.drewN 1⟩
  have := hR7.out.drewN 1
  rw [hM6.out] at this ⊢
  exact this
set_option maxHeartbeats 4000000 in
theorem RPut_full (r : RM w B gq sz h m g v M) (hln : M.length ≤ 4096) (hh : kvHas k M = false) (l : Int) (M5last : (M.getLast?).map (·.1) = some l) (hsz : (M.length : Int) = sz) (g0 : 0 ≤ g) (g1 : g ≤ 1152921504606846976) :
    Calls Try.prog 34 #[.pointer (some ⟨gq, 0, none⟩), .int .i64 k, .int .i64 x] w fun e w' => e = .returned (.tuple #[.int .i64 l, .bool true]) ∧ ∃ v', RM w' B gq sz h m (g + 1) v' (((k, x) :: M).dropLast) ∧ Chg w w' (fun q => q = gq) := by
  have hat := Lib.hid (at_miss w B gq sz h m g v M k r hh)
  have R0 := Lib.hid r
  have hBW5 : B ≤ (World.heap w).size := Nat.le_trans r.b (Nat.le_of_lt (blk_lt r.q))
  obtain ⟨M5, hM5⟩ : ∃ M5, M5 = M := ⟨_, rfl⟩
  subst hM5
  obtain ⟨A5, c5, rfl, -, hrd5⟩ := r.o.rd
  have o1 : w.cell? ⟨gq, 1, none⟩ = some (.slice A5 M5.length c5) := blk_cell r.q 1
  have o1' : World.cell? (World.alloc w (.cells #[.int .i64 k, .int .i64 x] 56)) ⟨gq, 1, none⟩ = some (.slice A5 M5.length c5) := blk_cell (r.below (below_alloc (Below.refl _ _) (.cells #[.int .i64 k, .int .i64 x] 56))).q 1
  have R5 := Lib.hid r
  have C5 := Lib.hid (Chg.refl w (fun q => q = gq))
  replace hrd5 := Lib.hid hrd5
  replace M5last := M5last
  clear r hh
  have hbA : Below (World.heap w).size w (World.alloc w (.cells #[.int .i64 k, .int .i64 x] 56)) := below_alloc (Below.refl _ _) _
  have hRA := Lib.hid (R5.out.below hbA)
  have hlit : Hid (OwnP (World.alloc w (.cells #[.int .i64 k, .int .i64 x] 56)) (World.heap w).size (.slice (some ⟨(World.heap w).size, 0, none⟩) 1 1) [(k, x)]) := own_pair _ _ _ _ (Nat.le_refl _)
  obtain ⟨v6, w6, hr6, ho6, hg6, -⟩ := run_appP (W := World.alloc w (.cells #[.int .i64 k, .int .i64 x] 56)) (A := A5) (c := c5) hlit.out (RdC.below hrd5.out hbA) hbA.size (by rw [List.length_singleton]; have := R5.out.ln; omega) 45
  have hb6 : Hid (Below (World.heap w).size w w6) := hbA.grown hg6 hbA.size (own_base hlit.out)
  have hR6 : Hid (RM w6 B gq sz h m g (.slice A5 M5.length c5) M5) := R5.out.below hb6.out
  obtain ⟨M6, hM6⟩ : ∃ M6, M6 = [(k, x)] ++ M5 := ⟨_, rfl⟩
  rw [← hM6] at ho6
  replace ho6 := own_weaken ho6 hBW5
  have hM6l : M6.length = M5.length + 1 := by rw [hM6]; simp
  replace hM6 := Lib.hid hM6
  obtain ⟨A6, c6, rfl, -, hrd6⟩ := OwnP.rd ho6
  have g1 := blk_cell hR6.out.q 1
  have gf1 := blk_frozen hR6.out.q 1
  simp only [List.getElem?_toArray, List.getElem?_cons_zero, List.getElem?_cons_succ] at g1
  have hrun6 : (Builtin.append_ #[45, 45] 45 #[.slice (some ⟨(World.heap w).size, 0, none⟩) 1 1, .slice A5 M5.length c5]).run Try.prog (World.alloc w (.cells #[.int .i64 k, .int .i64 x] 56)) = .ok (.slice A6 M6.length c6) w6 := hr6
  have hR7 : RM (w6.setCell ⟨gq, 1, none⟩ (.slice A6 M6.length c6)) B gq sz h m g (.slice A6 M6.length c6) M6 := hR6.out.setL ho6 (by omega)
  have hC7 : Hid (Chg w (w6.setCell ⟨gq, 1, none⟩ (.slice A6 M6.length c6)) (fun q => q = gq)) := (C5.out.trans (Chg.of_below hb6.out (fun q => False)) (fun _ _ h => h.elim)).set_ (p := ⟨gq, 1, none⟩) rfl _
  have hrd7 : RdC (w6.setCell ⟨gq, 1, none⟩ (.slice A6 M6.length c6)) A6 M6 := by
    obtain ⟨A', c', he, -, hrd⟩ := hR7.o.rd
    injection he with he1 he2 he3
    subst he1
    exact hrd
  replace hM6l := Lib.hid hM6l
  replace ho6 := Lib.hid ho6
  replace hrd6 := Lib.hid hrd6
  replace hR7 := Lib.hid hR7
  replace hrd7 := Lib.hid hrd7
  replace hg6 := Lib.hid hg6
  replace hbA := Lib.hid hbA
  clear hr6
  go_enter Try.func34, Try.ntmps34
  go_wp2_with (first | (go_at_call 37; go_must (refine hat.out.mono ?_); rintro e w' ⟨rfl, rfl⟩) | ((with_reducible refine gate_builtin (b := .append) (xs := #[.tmp 25, .tmp 29]) rfl ?_); go_must (refine list_run 45 (by rfl) (.tmp 25) (.tmp 29) rfl rfl rfl hrun6 ?_)))
  obtain ⟨w7, hw7⟩ : ∃ w7, w7 = w6.setCell ⟨gq, 1, none⟩ (.slice A6 M6.length c6) := ⟨_, rfl⟩
  rw [← hw7] at hR7 hC7 hrd7 ⊢
  clear hw7 hrun6 g1 gf1 hb6 hR6 hRA hlit
  have y1 : w7.cell? ⟨gq, 1, none⟩ = some (.slice A6 M6.length c6) := blk_cell hR7.out.q 1
  have y0 : w7.cell? ⟨gq, 0, none⟩ = some (.int .i64 sz) := blk_cell hR7.out.q 0
  have hle : decide ((M6.length : Int) ≤ sz) = false := by have := hM6l.out; simp; omega
  obtain ⟨q, hq⟩ : ∃ q, q + 1 = M6.length := ⟨M5.length, by have := hM6l.out; omega⟩
  replace hq := Lib.hid hq
  refine start_ (n := 10) (S := fun w' => w'.cell? ⟨gq, 1, none⟩ = some (.slice A6 M6.length c6) ∧ w'.cell? ⟨gq, 0, none⟩ = some (.int .i64 sz)) (ds := []) #[false, false, false, false, false, false, false, false, false, false] (by kernel_rfl) rfl rfl ⟨y1, y0⟩ (fun hHeld => ?_)
  refine pure_ (i := 0) (N := some 33) (v := ?_) (a' := ?_) #[true, false, false, false, false, false, false, false, false, false] rfl rfl (by kernel_rfl) (fun _ _ _ h => h) (Or.inl ⟨by rfl, ?_⟩) ?_ ?_
  rotate_left
  · intro w'
    go_simp
    with_reducible rfl
  rotate_left
  · simp only [Act.put, List.setIfInBounds_toArray, List.set_cons_zero, List.set_cons_succ, i64_w, i32_w]
    rfl
  refine pure_ (i := 1) (N := some 34) (v := ?_) (a' := ?_) #[true, true, false, false, false, false, false, false, false, false] rfl rfl (by kernel_rfl) (fun _ _ _ h => h) (Or.inl ⟨by rfl, ?_⟩) ?_ ?_
  rotate_left
  · intro w'
    go_simp
    with_reducible rfl
  rotate_left
  · simp only [Act.put, List.setIfInBounds_toArray, List.set_cons_zero, List.set_cons_succ, i64_w, i32_w]
    rfl
  refine pure_ (i := 2) (N := some 35) (v := ?_) (a' := ?_) #[true, true, true, false, false, false, false, false, false, false] rfl rfl (by kernel_rfl) (fun _ _ _ h => h) (Or.inl ⟨by rfl, ?_⟩) ?_ ?_
  rotate_left
  · intro w'
    go_simp
    with_reducible rfl
  rotate_left
  · simp only [Act.put, List.setIfInBounds_toArray, List.set_cons_zero, List.set_cons_succ, i64_w, i32_w]
    rfl
  refine pure_ (i := 5) (N := some 38) (v := ?_) (a' := ?_) #[true, true, true, false, false, true, false, false, false, false] rfl rfl (by kernel_rfl) (fun _ _ _ h => h) (Or.inl ⟨by rfl, ?_⟩) ?_ ?_
  rotate_left
  · intro w'
    go_simp
    with_reducible rfl
  rotate_left
  · simp only [Act.put, List.setIfInBounds_toArray, List.set_cons_zero, List.set_cons_succ, i64_w, i32_w]
    rfl
  refine pure_ (i := 6) (N := some 39) (v := ?_) (a' := ?_) #[true, true, true, false, false, true, true, false, false, false] rfl rfl (by kernel_rfl) (fun _ _ _ h => h) (Or.inl ⟨by rfl, ?_⟩) ?_ ?_
  rotate_left
  · intro w'
    go_simp
    with_reducible rfl
  rotate_left
  · simp only [Act.put, List.setIfInBounds_toArray, List.set_cons_zero, List.set_cons_succ, i64_w, i32_w]
    rfl
  refine pure_ (i := 7) (N := some 40) (v := ?_) (a' := ?_) #[true, true, true, false, false, true, true, true, false, false] rfl rfl (by kernel_rfl) (fun _ _ _ h => h) (Or.inl ⟨by rfl, ?_⟩) ?_ ?_
  rotate_left
  · intro w'
    go_simp
    with_reducible rfl
  rotate_left
  · simp only [Act.put, List.setIfInBounds_toArray, List.set_cons_zero, List.set_cons_succ, i64_w, i32_w]
    rfl
  refine take_ (i := 3) (N := some 36) (v := ?_) (a' := ?_) #[true, true, true, true, false, true, true, true, false, false] rfl rfl (by kernel_rfl) (fun _ _ _ h => h) (Or.inl ⟨by rfl, ?_⟩) hHeld ?_ ?_
  rotate_left
  · rintro w' ⟨s0, s1⟩
    go_simp
    with_reducible rfl
  rotate_left
  · simp only [Act.put, List.setIfInBounds_toArray, List.set_cons_zero, List.set_cons_succ, i64_w, i32_w]
    rfl
  refine pure_ (i := 4) (N := some 37) (v := ?_) (a' := ?_) #[true, true, true, true, true, true, true, true, false, false] rfl rfl (by kernel_rfl) (fun _ _ _ h => h) (Or.inl ⟨by rfl, ?_⟩) ?_ ?_
  rotate_left
  · intro w'
    go_simp
    with_reducible rfl
  rotate_left
  · simp only [Act.put, List.setIfInBounds_toArray, List.set_cons_zero, List.set_cons_succ, i64_w, i32_w]
    rfl
  refine take_ (i := 8) (N := some 41) (v := ?_) (a' := ?_) #[true, true, true, true, true, true, true, true, true, false] rfl rfl (by kernel_rfl) (fun _ _ _ h => h) (Or.inl ⟨by rfl, ?_⟩) hHeld ?_ ?_
  rotate_left
  · rintro w' ⟨s0, s1⟩
    go_simp
    with_reducible rfl
  rotate_left
  · simp only [Act.put, List.setIfInBounds_toArray, List.set_cons_zero, List.set_cons_succ, i64_w, i32_w]
    rfl
  refine pure_ (i := 9) (N := some 42) (v := ?_) (a' := ?_) #[true, true, true, true, true, true, true, true, true, true] rfl rfl (by kernel_rfl) (fun _ _ _ h => h) (Or.inl ⟨by rfl, ?_⟩) ?_ ?_
  rotate_left
  · intro w'
    go_simp
    with_reducible rfl
  rotate_left
  · simp only [Act.put, List.setIfInBounds_toArray, List.set_cons_zero, List.set_cons_succ, i64_w, i32_w]
    rfl
  refine done_ (by kernel_rfl) ?_
  clear hHeld
  replace hq := hq.out
  have hql : q < M6.length := by omega
  obtain ⟨ad6, rfl, yk, -⟩ := hrd7.out.at_ hql
  obtain ⟨k0, hk0⟩ : ∃ k0, k0 = M6[q].1 := ⟨_, rfl⟩
  rw [← hk0] at yk
  replace hk0 := Lib.hid hk0
  replace hq := Lib.hid hq
  replace y1 := Lib.hid y1
  go_wp2_with fail
  replace hq := hq.out
  clear y1
  obtain ⟨W7, hW7⟩ : ∃ W7, W7 = w7.drew := ⟨_, rfl⟩
  rw [← hW7]
  have hR8 : RM W7 B gq sz h m g (.slice (some ad6) M6.length c6) M6 := by rw [hW7]; exact hR7.out.drewN 1
  replace hC7 : Hid (Chg w W7 (fun q => q = gq)) := by rw [hW7]; exact hC7.out.drewN 1
  have yk : W7.cell? (ad6.add (q * 2)) = some (.int .i64 k0) := by rw [hW7]; exact yk
  clear hW7
  have hR80 := Lib.hid hR8
  have y1 : W7.cell? ⟨gq, 1, none⟩ = some (.slice (some ad6) (q + 1) c6) := by rw [hq]; exact blk_cell hR8.q 1
  have hq5 : q ≤ 4097 := by have := hR8.ln; omega
  have e1 : wrap64 (q : Int) = q := by unfold wrap64; omega
  have e2 : wrap64 ((q : Int) + 1 - 1) = q := by unfold wrap64; omega
  have e3 : (q : Int) < (q : Int) + 1 := by omega
  replace hq := Lib.hid hq
  replace hR8 := Lib.hid hR8
  refine start_ (n := 14) (S := fun w' => w'.cell? ⟨gq, 1, none⟩ = some (.slice (some ad6) (q + 1) c6) ∧ w'.cell? (ad6.add (q * 2)) = some (.int .i64 k0)) (ds := []) #[false, false, false, false, false, false, false, false, false, false, false, false, false, false] (by kernel_rfl) rfl rfl ⟨y1, yk⟩ (fun hHeld => ?_)
  refine pure_ (i := 0) (N := some 43) (v := ?_) (a' := ?_) #[true, false, false, false, false, false, false, false, false, false, false, false, false, false] rfl rfl (by kernel_rfl) (fun _ _ _ h => h) (Or.inl ⟨by rfl, ?_⟩) ?_ ?_
  rotate_left
  · intro w'
    go_simp
    with_reducible rfl
  rotate_left
  · simp only [Act.put, List.setIfInBounds_toArray, List.set_cons_zero, List.set_cons_succ, i64_w, i32_w]
    rfl
  refine pure_ (i := 1) (N := some 44) (v := ?_) (a' := ?_) #[true, true, false, false, false, false, false, false, false, false, false, false, false, false] rfl rfl (by kernel_rfl) (fun _ _ _ h => h) (Or.inl ⟨by rfl, ?_⟩) ?_ ?_
  rotate_left
  · intro w'
    go_simp
    with_reducible rfl
  rotate_left
  · simp only [Act.put, List.setIfInBounds_toArray, List.set_cons_zero, List.set_cons_succ, i64_w, i32_w]
    rfl
  refine pure_ (i := 2) (N := some 45) (v := ?_) (a' := ?_) #[true, true, true, false, false, false, false, false, false, false, false, false, false, false] rfl rfl (by kernel_rfl) (fun _ _ _ h => h) (Or.inl ⟨by rfl, ?_⟩) ?_ ?_
  rotate_left
  · intro w'
    go_simp
    with_reducible rfl
  rotate_left
  · simp only [Act.put, List.setIfInBounds_toArray, List.set_cons_zero, List.set_cons_succ, i64_w, i32_w]
    rfl
  refine pure_ (i := 4) (N := some 47) (v := ?_) (a' := ?_) #[true, true, true, false, true, false, false, false, false, false, false, false, false, false] rfl rfl (by kernel_rfl) (fun _ _ _ h => h) (Or.inl ⟨by rfl, ?_⟩) ?_ ?_
  rotate_left
  · intro w'
    go_simp
    with_reducible rfl
  rotate_left
  · simp only [Act.put, List.setIfInBounds_toArray, List.set_cons_zero, List.set_cons_succ, i64_w, i32_w]
    rfl
  refine pure_ (i := 5) (N := some 48) (v := ?_) (a' := ?_) #[true, true, true, false, true, true, false, false, false, false, false, false, false, false] rfl rfl (by kernel_rfl) (fun _ _ _ h => h) (Or.inl ⟨by rfl, ?_⟩) ?_ ?_
  rotate_left
  · intro w'
    go_simp
    with_reducible rfl
  rotate_left
  · simp only [Act.put, List.setIfInBounds_toArray, List.set_cons_zero, List.set_cons_succ, i64_w, i32_w]
    rfl
  refine pure_ (i := 6) (N := some 49) (v := ?_) (a' := ?_) #[true, true, true, false, true, true, true, false, false, false, false, false, false, false] rfl rfl (by kernel_rfl) (fun _ _ _ h => h) (Or.inl ⟨by rfl, ?_⟩) ?_ ?_
  rotate_left
  · intro w'
    go_simp
    with_reducible rfl
  rotate_left
  · simp only [Act.put, List.setIfInBounds_toArray, List.set_cons_zero, List.set_cons_succ, i64_w, i32_w]
    rfl
  refine take_ (i := 3) (N := some 46) (v := ?_) (a' := ?_) #[true, true, true, true, true, true, true, false, false, false, false, false, false, false] rfl rfl (by kernel_rfl) (fun _ _ _ h => h) (Or.inl ⟨by rfl, ?_⟩) hHeld ?_ ?_
  rotate_left
  · rintro w' ⟨s0, s1⟩
    go_simp
    with_reducible rfl
  rotate_left
  · simp only [Act.put, List.setIfInBounds_toArray, List.set_cons_zero, List.set_cons_succ, i64_w, i32_w]
    rfl
  refine take_ (i := 7) (N := some 50) (v := ?_) (a' := ?_) #[true, true, true, true, true, true, true, true, false, false, false, false, false, false] rfl rfl (by kernel_rfl) (fun _ _ _ h => h) (Or.inl ⟨by rfl, ?_⟩) hHeld ?_ ?_
  rotate_left
  · rintro w' ⟨s0, s1⟩
    go_simp
    with_reducible rfl
  rotate_left
  · simp only [Act.put, List.setIfInBounds_toArray, List.set_cons_zero, List.set_cons_succ, i64_w, i32_w]
    rfl
  refine pure_ (i := 8) (N := some 51) (v := ?_) (a' := ?_) #[true, true, true, true, true, true, true, true, true, false, false, false, false, false] rfl rfl (by kernel_rfl) (fun _ _ _ h => h) (Or.inl ⟨by rfl, ?_⟩) ?_ ?_
  rotate_left
  · intro w'
    go_simp
    with_reducible rfl
  rotate_left
  · simp only [Act.put, List.setIfInBounds_toArray, List.set_cons_zero, List.set_cons_succ, i64_w, i32_w]
    rfl
  refine pure_ (i := 9) (N := some 52) (v := ?_) (a' := ?_) #[true, true, true, true, true, true, true, true, true, true, false, false, false, false] rfl rfl (by kernel_rfl) (fun _ _ _ h => h) (Or.inl ⟨by rfl, ?_⟩) ?_ ?_
  rotate_left
  · intro w'
    go_simp
    with_reducible rfl
  rotate_left
  · simp only [Act.put, List.setIfInBounds_toArray, List.set_cons_zero, List.set_cons_succ, i64_w, i32_w]
    rfl
  refine pure_ (i := 10) (N := some 53) (v := ?_) (a' := ?_) #[true, true, true, true, true, true, true, true, true, true, true, false, false, false] rfl rfl (by kernel_rfl) (fun _ _ _ h => h) (Or.inl ⟨by rfl, ?_⟩) ?_ ?_
  rotate_left
  · intro w'
    go_simp
    with_reducible rfl
  rotate_left
  · simp only [Act.put, List.setIfInBounds_toArray, List.set_cons_zero, List.set_cons_succ, i64_w, i32_w]
    rfl
  refine pure_ (i := 11) (N := some 54) (v := ?_) (a' := ?_) #[true, true, true, true, true, true, true, true, true, true, true, true, false, false] rfl rfl (by kernel_rfl) (fun _ _ _ h => h) (Or.inl ⟨by rfl, ?_⟩) ?_ ?_
  rotate_left
  · intro w'
    go_simp
    with_reducible rfl
  rotate_left
  · simp only [Act.put, List.setIfInBounds_toArray, List.set_cons_zero, List.set_cons_succ, i64_w, i32_w]
    rfl
  refine take_ (i := 12) (N := some 55) (v := ?_) (a' := ?_) #[true, true, true, true, true, true, true, true, true, true, true, true, true, false] rfl rfl (by kernel_rfl) (fun _ _ _ h => h) (Or.inl ⟨by rfl, ?_⟩) hHeld ?_ ?_
  rotate_left
  · rintro w' ⟨s0, s1⟩
    go_simp
    with_reducible rfl
  rotate_left
  · simp only [Act.put, List.setIfInBounds_toArray, List.set_cons_zero, List.set_cons_succ, i64_w, i32_w]
    rfl
  refine pure_ (i := 13) (N := some 9) (v := ?_) (a' := ?_) #[true, true, true, true, true, true, true, true, true, true, true, true, true, true] rfl rfl (by kernel_rfl) (fun _ _ _ h => h) (Or.inl ⟨by rfl, ?_⟩) ?_ ?_
  rotate_left
  · intro w'
    go_simp
    with_reducible rfl
  rotate_left
  · simp only [Act.put, List.setIfInBounds_toArray, List.set_cons_zero, List.set_cons_succ, i64_w, i32_w]
    rfl
  refine done_ (by kernel_rfl) ?_
  clear hHeld
  have z1 : World.cell? W7.drew ⟨gq, 1, none⟩ = some (.slice (some ad6) (q + 1) c6) := y1
  go_wp2_with fail
  refine (without_calls W7.drew B gq sz h m g _ M6 (hR80.out.drewN 1) q (by have := hq.out; omega)).mono ?_
  rintro e w8 ⟨v8, rfl, ho8, hb8⟩
  have hC8 : Hid (Chg w w8 (fun q => q = gq)) := (hC7.out.drewN 1).trans (Chg.of_below hb8 (fun q => False)) (fun _ _ h => h.elim)
  have hR81 := (hR80.out.drewN 1).below hb8
  replace ho8 := own_weaken ho8 (Nat.le_trans (Nat.le_trans R0.out.b (Nat.le_of_lt (blk_lt R0.out.q))) hC7.out.size)
  obtain ⟨M8, hM8⟩ : ∃ M8, M8 = M6.eraseIdx q := ⟨_, rfl⟩
  rw [← hM8] at ho8
  have hM8l : M8.length ≤ 4097 := by have := hR81.ln; have := hq.out; rw [hM8, List.length_eraseIdx, if_pos (by omega)]; omega
  replace hM8 := Lib.hid hM8
  obtain ⟨A8, c8, rfl, -⟩ := OwnP.rd ho8
  have u1 := blk_cell hR81.q 1
  have uf1 := blk_frozen hR81.q 1
  simp only [List.getElem?_toArray, List.getElem?_cons_zero, List.getElem?_cons_succ] at u1
  have hR9 := hR81.setL ho8 hM8l
  have hC9 := Lib.hid (hC8.out.set_ (p := ⟨gq, 1, none⟩) rfl (.slice A8 M8.length c8))
  have u4 := blk_cell hR9.q 4
  have uf4 := blk_frozen hR9.q 4
  simp only [List.getElem?_toArray, List.getElem?_cons_zero, List.getElem?_cons_succ] at u4
  have hR10 := Lib.hid (hR9.set4 (g + 1))
  have hC10 := Lib.hid (hC9.out.set_ (p := ⟨gq, 4, none⟩) rfl (.int .i64 (g + 1)))
  replace ho8 := Lib.hid ho8
  clear hb8 hR81 hR9
  go_wp2_with fail
  go_ret2
  have hq2 : q = M5.length := by have := hq.out; have := hM6l.out; omega
  refine ⟨?_, .slice A8 M8.length c8, ?_, hC10.out⟩
  · rw [hk0.out, lastKey hM6.out hq2 M5last]
    rfl
  · have := hR10.out
    rw [hM8.out, hM6.out, hq2] at this
    rw [hM8.out, hM6.out, hq2]
    rw [← front_drop]
    exact this
end
end Go.Proofs.Ytecgbhiebaiokaa.G
