/- The contract of the document's Get. -/
import Derived.Test.YtecgbhiebaiokaaK2
namespace Go.Proofs.Ytecgbhiebaiokaa.G
open Go.RowKit Go.Proofs.YtecgbhiebaiokaaW.PrintWords Go.Proofs.YtecgbhiebaiokaaW.PrintLast Go.Proofs.YtecgbhiebaiokaaW.PrintMore
set_option linter.unusedSimpArgs false
set_option linter.unusedVariables false
section
variable {w w1 : World} {B gq : Nat} {sz h m g : Int} {v : Value} {M : KV}
theorem own_pair (W : World) (B : Nat) (k x : Int) (hB : B ≤ W.heap.size) : OwnP (W.alloc (.cells #[.int .i64 k, .int .i64 x] 56)) B (.slice (some ⟨W.heap.size, 0, none⟩) 1 1) [(k, x)] := by
  have h := World.ownsRow_lit (base := B) (e := 56) (size := 2) W #[.int .i64 k, .int .i64 x] 1 hB (by simp [maxLen]) (by simp)
  exact h
theorem cell_far {w : World} {a p : Addr} {u : Value} (h : a.block ≠ p.block) : (w.setCell p u).cell? a = w.cell? a := by
  simp only [World.cell?, Below.heap_setCell w p u a.block h]
theorem RM.grow {row : Option Nat} (r : RM w B gq sz h m g v M) (hg : w.grownBy w1 row) (h1 : some gq ≠ row) (h2 : ∀ q, v.ownBlock = some q → row ≠ some q) : RM w1 B gq sz h m g v M :=
  ⟨blk_grown r.q hg h1, own_other r.o hg (by
    cases hv : v.ownBlock with
    | none => exact .inl rfl
    | some q => exact .inr (fun e => h2 q hv e.symm)), r.b, r.ln⟩
theorem RM.oNe (r : RM w B gq sz h m g v M) : some gq ≠ v.ownBlock := own_ne r.o r.q (by decide)
theorem RM.setL (r : RM w B gq sz h m g v M) {v2 : Value} {M2 : KV} (o : OwnP w B v2 M2) (hl : M2.length ≤ 4097) : RM (w.setCell ⟨gq, 1, none⟩ v2) B gq sz h m g v2 M2 :=
  ⟨set_row r.q 1 _ _ rfl, own_setCell o (own_ne o r.q (by decide)) _, r.b, hl⟩
theorem RM.set0 (r : RM w B gq sz h m g v M) (z : Int) : RM (w.setCell ⟨gq, 0, none⟩ (.int .i64 z)) B gq z h m g v M := ⟨set_row r.q 0 _ _ rfl, own_setCell r.o r.oNe _, r.b, r.ln⟩
theorem RM.set2 (r : RM w B gq sz h m g v M) (z : Int) : RM (w.setCell ⟨gq, 2, none⟩ (.int .i64 z)) B gq sz z m g v M := ⟨set_row r.q 2 _ _ rfl, own_setCell r.o r.oNe _, r.b, r.ln⟩
theorem RM.set3 (r : RM w B gq sz h m g v M) (z : Int) : RM (w.setCell ⟨gq, 3, none⟩ (.int .i64 z)) B gq sz h z g v M := ⟨set_row r.q 3 _ _ rfl, own_setCell r.o r.oNe _, r.b, r.ln⟩
theorem RM.set4 (r : RM w B gq sz h m g v M) (z : Int) : RM (w.setCell ⟨gq, 4, none⟩ (.int .i64 z)) B gq sz h m z v M := ⟨set_row r.q 4 _ _ rfl, own_setCell r.o r.oNe _, r.b, r.ln⟩
end
section
variable (w : World) (B gq : Nat) (sz h m g : Int) (v : Value) (M : KV) (k : Int)
set_option maxHeartbeats 1000000 in
theorem RGet_miss (r : RM w B gq sz h m g v M) (hh : kvHas k M = false) (h0 : 0 ≤ m) (h1 : m ≤ 1152921504606846976) :
    Calls Try.prog 32 #[.pointer (some ⟨gq, 0, none⟩), .int .i64 k] w fun e w' => e = .returned (.tuple #[.int .i64 0, .bool false]) ∧ RM w' B gq sz h (m + 1) g v M ∧ Chg w w' (fun q => q = gq) := by
  have hat := Lib.hid (at_miss w B gq sz h m g v M k r hh)
  have q3 : w.cell? ⟨gq, 3, none⟩ = some (.int .i64 m) := blk_cell r.q 3
  have f3 := blk_frozen r.q 3
  have hR := Lib.hid (r.set3 (m + 1))
  have hC := Lib.hid ((Chg.refl w (fun q => q = gq)).set_ (p := ⟨gq, 3, none⟩) rfl (.int .i64 (m + 1)))
  clear r
  go_enter Try.func32, Try.ntmps32
  go_wp2_with (first | (go_at_call 37; go_must (refine hat.out.mono ?_); rintro e w' ⟨rfl, rfl⟩))
  go_ret2
  exact ⟨rfl, hR.out, hC.out⟩
set_option maxHeartbeats 4000000 in
theorem RGet_hit (r : RM w B gq sz h m g v M) (hu : KUniq M) (i : Nat) (hi : i < M.length) (hik : M[i].1 = k) (h0 : 0 ≤ h) (h1 : h ≤ 1152921504606846976) :
    Calls Try.prog 32 #[.pointer (some ⟨gq, 0, none⟩), .int .i64 k] w fun e w' => e = .returned (.tuple #[.int .i64 M[i].2, .bool true]) ∧ ∃ v', RM w' B gq sz (h + 1) m g v' ((k, M[i].2) :: M.eraseIdx i) ∧ Chg w w' (fun q => q = gq) := by
  have hat := Lib.hid (at_hit w B gq sz h m g v M k r hu i hi hik)
  have hBw : B ≤ w.heap.size := Nat.le_trans r.b (Nat.le_of_lt (blk_lt r.q))
  have hln := r.ln
  obtain ⟨A, c, rfl, hc, hr⟩ := r.o.rd
  have q1 : w.cell? ⟨gq, 1, none⟩ = some (.slice A M.length c) := blk_cell r.q 1
  obtain ⟨ad, rfl, hkc, hvc⟩ := hr.at_ hi
  obtain ⟨x, hx⟩ : ∃ x, x = M[i].2 := ⟨_, rfl⟩
  rw [hik] at hkc
  rw [← hx] at hvc ⊢
  obtain ⟨v, hv⟩ : ∃ v, v = Value.slice (some ad) M.length c := ⟨_, rfl⟩
  have hR0 := r
  rw [← hv] at hR0
  replace hR0 := Lib.hid hR0
  replace hv := Lib.hid hv
  replace hx := Lib.hid hx
  clear r hik hu hr
  go_enter Try.func32, Try.ntmps32
  go_wp2_with (first | (go_at_call 37; go_must (refine hat.out.mono ?_); rintro e w' ⟨rfl, rfl⟩))
  have hac := heap_alloc_new w (.cells #[.int .i64 k, .int .i64 x] 56)
  have hBe1 : Hid (Below w.heap.size w (w.alloc (.cells #[.int .i64 k, .int .i64 x] 56))) := below_alloc (Below.refl _ w) _
  have hR1 : Hid (RM (w.alloc (.cells #[.int .i64 k, .int .i64 x] 56)) B gq sz h m g v M) := hR0.out.below hBe1.out
  have hvlt0 : ∀ q, v.ownBlock = some q → q < w.heap.size := fun q hq => own_lt hR0.out.o q hq
  have hql0 : gq < w.heap.size := blk_lt hR0.out.q
  obtain ⟨gx, hgx⟩ : ∃ gx, gx = w.heap.size := ⟨_, rfl⟩
  obtain ⟨W, hW⟩ : ∃ W, W = w.alloc (.cells #[.int .i64 k, .int .i64 x] 56) := ⟨_, rfl⟩
  have hsW : W.heap.size = w.heap.size + 1 := by rw [hW]; simp
  rw [← hW] at hac hBe1 hR1 ⊢
  rw [← hgx] at hac
  rw [← hgx]
  have x0 := blk_cell hac 0
  have x1 := blk_cell hac 1
  simp only [List.getElem?_toArray, List.getElem?_cons_zero, List.getElem?_cons_succ] at x0 x1
  have hvlt : ∀ q, v.ownBlock = some q → q < W.heap.size := fun q hq => by have := hvlt0 q hq; omega
  have hql : gq < W.heap.size := by omega
  have hxl : gx < W.heap.size := by omega
  have hgxq : gx ≠ gq := by omega
  replace hgx := Lib.hid hgx
  replace hsW := Lib.hid hsW
  replace hvlt := Lib.hid hvlt
  have hR1d : Hid (RM W.drew B gq sz h m g v M) := hR1.out.drewN 1
  have hBe1d : Hid (Below w.heap.size w W.drew) := below_drew hBe1.out
  clear hW hac q1 hkc hvc hvlt0
  refine start_ (n := 10) (S := fun w' => w'.cell? ⟨gx, 0, none⟩ = some (.int .i64 k) ∧ w'.cell? ⟨gx, 1, none⟩ = some (.int .i64 x) ∧ Hid (RM w' B gq sz h m g v M) ∧ Hid (Below w.heap.size w w')) (ds := [9]) #[false, false, false, false, false, false, false, false, false, false] (by kernel_rfl) rfl rfl ⟨x0, x1, hR1d, hBe1d⟩ (fun hHeld => ?_)
  refine pure_ (i := 0) (N := some 29) (v := ?_) (a' := ?_) #[true, false, false, false, false, false, false, false, false, false] rfl rfl (by kernel_rfl) (fun _ _ _ h => h) (Or.inl ⟨by rfl, ?_⟩) ?_ ?_
  rotate_left
  · intro w'
    go_simp
    with_reducible rfl
  rotate_left
  · simp only [Act.put, List.setIfInBounds_toArray, List.set_cons_zero, List.set_cons_succ, i64_w, i32_w]
    rfl
  refine pure_ (i := 3) (N := some 32) (v := ?_) (a' := ?_) #[true, false, false, true, false, false, false, false, false, false] rfl rfl (by kernel_rfl) (fun _ _ _ h => h) (Or.inl ⟨by rfl, ?_⟩) ?_ ?_
  rotate_left
  · intro w'
    go_simp
    with_reducible rfl
  rotate_left
  · simp only [Act.put, List.setIfInBounds_toArray, List.set_cons_zero, List.set_cons_succ, i64_w, i32_w]
    rfl
  refine pure_ (i := 4) (N := some 33) (v := ?_) (a' := ?_) #[true, false, false, true, true, false, false, false, false, false] rfl rfl (by kernel_rfl) (fun _ _ _ h => h) (Or.inl ⟨by rfl, ?_⟩) ?_ ?_
  rotate_left
  · intro w'
    go_simp
    with_reducible rfl
  rotate_left
  · simp only [Act.put, List.setIfInBounds_toArray, List.set_cons_zero, List.set_cons_succ, i64_w, i32_w]
    rfl
  refine take_ (i := 1) (N := some 30) (v := ?_) (a' := ?_) #[true, true, false, true, true, false, false, false, false, false] rfl rfl (by kernel_rfl) (fun _ _ _ h => h) (Or.inl ⟨by rfl, ?_⟩) hHeld ?_ ?_
  rotate_left
  · rintro w' ⟨s0, s1, s2, s3⟩
    go_simp
    with_reducible rfl
  rotate_left
  · simp only [Act.put, List.setIfInBounds_toArray, List.set_cons_zero, List.set_cons_succ, i64_w, i32_w]
    rfl
  refine join_ (σ := Nat × Value) 4 #[true, true, true, true, true, true, false, false, false, false] (fun s => [(31, .slice (some ⟨s.1, 0, none⟩) 1 1), (34, s.2)]) (fun s w' => (w'.cell? ⟨gx, 0, none⟩ = some (.int .i64 k) ∧ w'.cell? ⟨gx, 1, none⟩ = some (.int .i64 x) ∧ Hid (RM w' B gq sz h m g v M) ∧ Hid (Below w.heap.size w w')) ∧ Hid (OwnP w' w.heap.size (.slice (some ⟨s.1, 0, none⟩) 1 1) [(k, x)]) ∧ Hid (OwnP w' w.heap.size s.2 (M.eraseIdx i)) ∧ W.heap.size ≤ s.1) ?_ ?_
  rotate_left
  · intro hCont
    refine two_ (i := 2) (j := 5) (Ni := some 31) (Nj := some 34) #[true, true, true, true, true, false, false, false, false, false] #[true, true, false, true, true, true, false, false, false, false] rfl rfl rfl rfl (by kernel_rfl) (by decide) (by decide) (fun K hK => ?_) (fun K hK => ?_)
    · skip
      refine value_ (w1 := ?_) (v := ?_) (by rfl) rfl ?_ ?_
      rotate_left 2
      · go_simp
        constructor
        · rfl
        · rfl
      have hb2 := below_alloc (Below.refl _ W.drew) (.cells #[.int .i64 k, .int .i64 x] 56)
      have hlit : Hid (OwnP (World.drew (World.alloc W (.cells #[.int .i64 k, .int .i64 x] 56))) w.heap.size (.slice (some ⟨W.heap.size, 0, none⟩) 1 1) [(k, x)]) := own_pair W _ _ _ hBe1.out.size
      refine hK.out _ _ ⟨pw_cell_below hb2 hHeld.1, pw_cell_below hb2 hHeld.2.1, (show Hid (RM _ _ _ _ _ _ _ _ _) from hHeld.2.2.1.out.below hb2), (show Hid (Below _ _ _) from below_step hHeld.2.2.2.out hb2)⟩ (fun hHeld => ?_)
      clear hK K
      refine norm_ (a' := ?_) ?_ ?_
      rotate_left
      · show Act.put _ (some 31) _ = _
        simp only [Act.put, List.setIfInBounds_toArray, List.set_cons_zero, List.set_cons_succ, i64_w, i32_w]
        rfl
      refine one_ (i := 5) (N := some 34) #[true, true, true, true, true, true, false, false, false, false] rfl rfl (by kernel_rfl) (by decide) (fun K hK => ?_)
      refine goes_ Try.func38 (by kernel_rfl) rfl #[.pointer (some ⟨gq, 0, none⟩), .int .i64 i] (by rfl) rfl rfl (by simp only [List.map_toArray, List.map_cons, List.map_nil]; rfl) ?_
      with_reducible refine (without_calls _ B gq sz h m g v M hHeld.2.2.1.out i hi).mono ?_
      rintro e w4 ⟨v4, rfl, ho4, hb4⟩
      refine ⟨_, rfl, ?_⟩
      have hBe4 : Hid (Below w.heap.size w w4) := below_step hHeld.2.2.2.out hb4
      have hsz4 := hb4.size
      replace ho4 : Hid (OwnP w4 w.heap.size v4 (M.eraseIdx i)) := own_weaken ho4 hHeld.2.2.2.out.size
      replace hlit : Hid (OwnP w4 w.heap.size (.slice (some ⟨W.heap.size, 0, none⟩) 1 1) [(k, x)]) := hlit.out.below hb4
      refine hK.out _ _ ⟨pw_cell_below hb4 hHeld.1, pw_cell_below hb4 hHeld.2.1, (show Hid (RM _ _ _ _ _ _ _ _ _) from hHeld.2.2.1.out.below hb4), hBe4⟩ (fun hHeld => ?_)
      clear hK K
      refine norm_ (a' := ?_) ?_ ?_
      rotate_left
      · show Act.put _ (some 34) _ = _
        simp only [Act.put, List.setIfInBounds_toArray, List.set_cons_zero, List.set_cons_succ, i64_w, i32_w]
        rfl
      exact norm_ (by simp only [putAll, Act.put, List.setIfInBounds_toArray, List.set_cons_zero, List.set_cons_succ]) (hCont (W.heap.size, v4) _ ⟨hHeld, hlit, ho4, Nat.le_refl _⟩)
    · skip
      refine goes_ Try.func38 (by kernel_rfl) rfl #[.pointer (some ⟨gq, 0, none⟩), .int .i64 i] (by rfl) rfl rfl (by simp only [List.map_toArray, List.map_cons, List.map_nil]; rfl) ?_
      with_reducible refine (without_calls _ B gq sz h m g v M hHeld.2.2.1.out i hi).mono ?_
      rintro e w4 ⟨v4, rfl, ho4, hb4⟩
      refine ⟨_, rfl, ?_⟩
      have hBe4 : Hid (Below w.heap.size w w4) := below_step hHeld.2.2.2.out hb4
      have hsz4 := hb4.size
      replace ho4 : Hid (OwnP w4 w.heap.size v4 (M.eraseIdx i)) := own_weaken ho4 hHeld.2.2.2.out.size
      refine hK.out _ _ ⟨pw_cell_below hb4 hHeld.1, pw_cell_below hb4 hHeld.2.1, (show Hid (RM _ _ _ _ _ _ _ _ _) from hHeld.2.2.1.out.below hb4), hBe4⟩ (fun hHeld => ?_)
      clear hK K
      refine norm_ (a' := ?_) ?_ ?_
      rotate_left
      · show Act.put _ (some 34) _ = _
        simp only [Act.put, List.setIfInBounds_toArray, List.set_cons_zero, List.set_cons_succ, i64_w, i32_w]
        rfl
      refine one_ (i := 2) (N := some 31) #[true, true, true, true, true, true, false, false, false, false] rfl rfl (by kernel_rfl) (by decide) (fun K hK => ?_)
      refine value_ (w1 := ?_) (v := ?_) (by rfl) rfl ?_ ?_
      rotate_left 2
      · go_simp
        constructor
        · rfl
        · rfl
      have hb2 := below_alloc (Below.refl _ w4) (.cells #[.int .i64 k, .int .i64 x] 56)
      have hlit : Hid (OwnP (World.alloc w4 (.cells #[.int .i64 k, .int .i64 x] 56)) w.heap.size (.slice (some ⟨w4.heap.size, 0, none⟩) 1 1) [(k, x)]) := own_pair w4 _ _ _ hHeld.2.2.2.out.size
      refine hK.out _ _ ⟨pw_cell_below hb2 hHeld.1, pw_cell_below hb2 hHeld.2.1, (show Hid (RM _ _ _ _ _ _ _ _ _) from hHeld.2.2.1.out.below hb2), (show Hid (Below _ _ _) from below_step hHeld.2.2.2.out hb2)⟩ (fun hHeld => ?_)
      clear hK K
      refine norm_ (a' := ?_) ?_ ?_
      rotate_left
      · show Act.put _ (some 31) _ = _
        simp only [Act.put, List.setIfInBounds_toArray, List.set_cons_zero, List.set_cons_succ, i64_w, i32_w]
        rfl
      exact norm_ (by simp only [putAll, Act.put, List.setIfInBounds_toArray, List.set_cons_zero, List.set_cons_succ]) (hCont (w4.heap.size, v4) _ ⟨hHeld, hlit, (show Hid (OwnP _ _ _ _) from ho4.out.below hb2), hsz4⟩)
  rintro ⟨gl, v5⟩ w5 ⟨hHeld, hlit, ho5, hgl⟩
  obtain ⟨A5, c5, rfl, -, hrd5⟩ := ho5.out.rd
  dsimp only at hlit hgl
  refine norm_ (a' := ?_) ?_ ?_
  rotate_left
  · simp only [putAll, Act.put, List.setIfInBounds_toArray, List.set_cons_zero, List.set_cons_succ]
    rfl
  refine one_ (i := 6) (N := some 35) #[true, true, true, true, true, true, true, false, false, false] rfl rfl (by kernel_rfl) (by decide) (fun K hK => ?_)
  obtain ⟨v6, w6, hr6, ho6, hg6, hat6⟩ := run_appP hlit.out hrd5 hHeld.2.2.2.out.size (by rw [List.length_singleton, List.length_eraseIdx, if_pos hi]; omega) 45
  have hb6 : Hid (Below w.heap.size w5 w6) := (Below.refl w.heap.size w5).grown hg6 hHeld.2.2.2.out.size (own_base hlit.out)
  have hrow : Value.ownBlock (.slice (some ⟨gl, 0, none⟩) 1 1) = some gl := rfl
  rw [hrow] at hg6
  have hR6 : Hid (RM w6 B gq sz h m g v M) := hHeld.2.2.1.out.grow hg6 (fun e => by injection e with e; omega) (fun q hq e => by injection e with e; have := hvlt.out q hq; omega)
  have hrr : (Builtin.append_ #[45, 45] 45 #[.slice (some ⟨gl, 0, none⟩) 1 1, .slice A5 (M.eraseIdx i).length c5]).run Try.prog w5 = .ok v6 w6 := hr6
  obtain ⟨M6, hM6⟩ : ∃ M6, M6 = [(k, x)] ++ M.eraseIdx i := ⟨_, rfl⟩
  rw [← hM6] at ho6
  replace hM6 := Lib.hid hM6
  obtain ⟨A6, c6, rfl, -⟩ := ho6.rd
  replace ho6 := Lib.hid ho6
  refine step_run_append rfl (.tmp 31) (.tmp 34) 45 rfl rfl rfl hrr ?_
  refine hK.out _ _ ⟨hg6.cell hHeld.1 (fun e => by injection e with e; dsimp only at e; omega), hg6.cell hHeld.2.1 (fun e => by injection e with e; dsimp only at e; omega), hR6, (show Hid (Below _ _ _) from hHeld.2.2.2.out.trans hb6.out)⟩ (fun hHeld => ?_)
  clear hK K
  refine norm_ (a' := ?_) ?_ ?_
  rotate_left
  · show Act.put _ (some 35) _ = _
    simp only [Act.put, List.setIfInBounds_toArray, List.set_cons_zero, List.set_cons_succ, i64_w, i32_w]
    rfl
  refine pure_ (i := 7) (N := some 36) (v := ?_) (a' := ?_) #[true, true, true, true, true, true, true, true, false, false] rfl rfl (by kernel_rfl) (fun _ _ _ h => h) (Or.inl ⟨by rfl, ?_⟩) ?_ ?_
  rotate_left
  · intro w'
    go_simp
    with_reducible rfl
  rotate_left
  · simp only [Act.put, List.setIfInBounds_toArray, List.set_cons_zero, List.set_cons_succ, i64_w, i32_w]
    rfl
  refine pure_ (i := 8) (N := some 37) (v := ?_) (a' := ?_) #[true, true, true, true, true, true, true, true, true, false] rfl rfl (by kernel_rfl) (fun _ _ _ h => h) (Or.inl ⟨by rfl, ?_⟩) ?_ ?_
  rotate_left
  · intro w'
    go_simp
    with_reducible rfl
  rotate_left
  · simp only [Act.put, List.setIfInBounds_toArray, List.set_cons_zero, List.set_cons_succ, i64_w, i32_w]
    rfl
  refine last_ (i := 9) (N := none) #[true, true, true, true, true, true, true, true, true, true] rfl rfl (by kernel_rfl) (by decide) (fun K hK => ?_)
  have c9 := blk_cell hHeld.2.2.1.out.q 1
  have f9 := blk_frozen hHeld.2.2.1.out.q 1
  simp only [List.getElem?_toArray, List.getElem?_cons_zero, List.getElem?_cons_succ] at c9
  refine skip_ (w1 := ?_) (by rfl) rfl ?_ ?_
  rotate_left
  · go_simp
    rfl
  refine hK.out _ _ ?_
  refine done_ (by kernel_rfl) ?_
  obtain ⟨v6, hv6⟩ : ∃ v6, v6 = Value.slice A6 M6.length c6 := ⟨_, rfl⟩
  rw [← hv6] at ho6 ⊢
  replace hv6 := Lib.hid hv6
  have hR9 : Hid (RM (w6.setCell ⟨gq, 1, none⟩ v6) B gq sz h m g v6 M6) := hHeld.2.2.1.out.setL (own_weaken ho6.out hBw) (by rw [hM6.out]; simp only [List.length_cons, List.singleton_append, List.length_eraseIdx, if_pos hi]; omega)
  have hC9 : Hid (Chg w (w6.setCell ⟨gq, 1, none⟩ v6) (fun q => q = gq)) := (Chg.of_below hHeld.2.2.2.out (fun q => q = gq)).set_ (p := ⟨gq, 1, none⟩) rfl _
  have x9 : (w6.setCell ⟨gq, 1, none⟩ v6).cell? ⟨gx, 1, none⟩ = some (.int .i64 x) := (cell_far hgxq).trans hHeld.2.1
  obtain ⟨w9, hw9⟩ : ∃ w9, w9 = w6.setCell ⟨gq, 1, none⟩ v6 := ⟨_, rfl⟩
  rw [← hw9] at hR9 hC9 x9 ⊢
  clear hw9 hHeld c9 f9
  have q2 := blk_cell hR9.out.q 2
  have f2 := blk_frozen hR9.out.q 2
  simp only [List.getElem?_toArray, List.getElem?_cons_zero, List.getElem?_cons_succ] at q2
  have hR10 := Lib.hid (hR9.out.set2 (h + 1))
  have hC10 := Lib.hid (hC9.out.set_ (p := ⟨gq, 2, none⟩) rfl (.int .i64 (h + 1)))
  have x10 : (w9.setCell ⟨gq, 2, none⟩ (.int .i64 (h + 1))).cell? ⟨gx, 1, none⟩ = some (.int .i64 x) := (cell_far hgxq).trans x9
  clear hlit ho5 hrd5 hr6 ho6 hg6 hb6 hrr hR6
  go_wp2_with fail
  go_ret2
  refine ⟨rfl, v6, ?_, hC10.out⟩
  have := hR10.out
  rw [hM6.out] at this
  exact this
end
end Go.Proofs.Ytecgbhiebaiokaa.G
