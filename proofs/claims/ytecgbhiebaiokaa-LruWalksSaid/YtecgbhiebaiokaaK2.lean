/- The document's memo in memory; the contracts of its New, at, without and Look. -/
import Derived.Test.YtecgbhiebaiokaaK1
namespace Go.Proofs.Ytecgbhiebaiokaa.G
open Go.RowKit Go.Proofs.YtecgbhiebaiokaaW.PrintWords Go.Proofs.YtecgbhiebaiokaaW.PrintLast Go.Proofs.YtecgbhiebaiokaaW.PrintMore
set_option linter.unusedSimpArgs false
set_option linter.unusedVariables false
structure RM (w : World) (B gq : Nat) (sz h m g : Int) (v : Value) (M : KV) : Prop where
  q : w.heap[gq]? = some (.cells #[.int .i64 sz, v, .int .i64 h, .int .i64 m, .int .i64 g] 47 (0, 0))
  o : OwnP w B v M
  b : B ≤ gq
  ln : M.length ≤ 4097
theorem RM.below {w w1 : World} {B gq : Nat} {sz h m g : Int} {v : Value} {M : KV} (r : RM w B gq sz h m g v M) (hb : Below w.heap.size w w1) : RM w1 B gq sz h m g v M := ⟨blk_below r.q hb, r.o.below hb, r.b, r.ln⟩
theorem RM.drewN {w : World} {B gq : Nat} {sz h m g : Int} {v : Value} {M : KV} (r : RM w B gq sz h m g v M) (k : Nat) : RM (w.drewN k) B gq sz h m g v M := ⟨r.q, r.o, r.b, r.ln⟩
theorem below_cell {B : Nat} {w w1 : World} (h : Below B w w1) {a : Addr} {v : Value} (ha : a.block < B) (hc : w.cell? a = some v) : w1.cell? a = some v := (h.cell ha).trans hc
theorem kv_ne {M : KV} (hu : KUniq M) {i j : Nat} (hi : i < M.length) (hj : j < M.length) (hne : i ≠ j) : M[i].1 ≠ M[j].1 := by
  intro he
  have := (List.getElem_inj (i := i) (j := j) (h₀ := by simpa using hi) (h₁ := by simpa using hj) hu).1 (by simpa using he)
  exact hne this
theorem RNew_bad (most : Int) (w : World) (h : most < 1 ∨ 4096 < most) :
    Calls Try.prog 17 #[.int .i64 most] w fun e w' => e = .returned (.tuple #[.agg #[.int .i64 0, .slice none 0 0, .int .i64 0, .int .i64 0, .int .i64 0], .int .i64 1]) ∧ Below w.heap.size w w' := by
  rcases h with h | h
  · go_enter Try.func17, Try.ntmps17
    go_wp2_with fail
    refine bodyPost_ret (v := .tuple #[.agg #[.int .i64 0, .slice none 0 0, .int .i64 0, .int .i64 0, .int .i64 0], .int .i64 1]) (by simp [results, Try.results17, go_sem]) rfl ⟨rfl, ?_⟩
    exact below_alloc (Below.refl _ _) _
  · have h1 : ¬ most < 1 := by omega
    go_enter Try.func17, Try.ntmps17
    go_wp2_with fail
    refine bodyPost_ret (v := .tuple #[.agg #[.int .i64 0, .slice none 0 0, .int .i64 0, .int .i64 0, .int .i64 0], .int .i64 1]) (by simp [results, Try.results17, go_sem]) rfl ⟨rfl, ?_⟩
    exact below_alloc (Below.refl _ _) _
theorem RNew_good (most : Int) (w : World) (h1 : 1 ≤ most) (h2 : most ≤ 4096) :
    Calls Try.prog 17 #[.int .i64 most] w fun e w' => e = .returned (.tuple #[.agg #[.int .i64 most, .slice none 0 0, .int .i64 0, .int .i64 0, .int .i64 0], .int .i64 0]) ∧ Below w.heap.size w w' := by
  have h3 : ¬ most < 1 := by omega
  have h4 : ¬ 4096 < most := by omega
  go_enter Try.func17, Try.ntmps17
  go_wp2_with fail
  refine bodyPost_ret (v := .tuple #[.agg #[.int .i64 most, .slice none 0 0, .int .i64 0, .int .i64 0, .int .i64 0], .int .i64 0]) (by simp [results, Try.results17, go_sem]) rfl ⟨rfl, ?_⟩
  exact below_alloc (Below.refl _ _) _
section
variable (w : World) (B gq : Nat) (sz h m g : Int) (v : Value) (M : KV) (k : Int)
set_option maxHeartbeats 1000000 in
theorem at_miss (r : RM w B gq sz h m g v M) (hh : kvHas k M = false) :
    Calls Try.prog 37 #[.pointer (some ⟨gq, 0, none⟩), .int .i64 k] w fun e w' => e = .returned (.int .i64 (-1)) ∧ w = w' := by
  obtain ⟨A, c, rfl, hc, hr⟩ := r.o.rd
  have q1 : w.cell? ⟨gq, 1, none⟩ = some (.slice A M.length c) := blk_cell r.q 1
  have hln := r.ln
  have hH := Lib.hid hh
  have hR := Lib.hid hr
  clear r hh hr
  go_enter Try.func37, Try.ntmps37
  go_wp2_with fail
  go_loopw [5] (fun i wr => w = wr ∧ ∃ (j : Nat), i = .int .i64 j ∧ j ≤ M.length) (fun i _ => M.length - (intOf i).toNat)
  case atStart => exact ⟨rfl, 0, rfl, by omega⟩
  case round =>
    obtain ⟨rfl, j, rfl, hj⟩ := hrel
    by_cases hlt : j < M.length
    · obtain ⟨ad, rfl, hk, -⟩ := hR.out.at_ hlt
      have hne : (M[j].1 == k) = false := by
        have := hH.out
        unfold kvHas at this
        rw [List.any_eq_false] at this
        simpa using this _ (List.getElem_mem hlt)
      obtain ⟨x, hx⟩ : ∃ x, x = M[j].1 := ⟨_, rfl⟩
      rw [← hx] at hk hne
      replace hx := Lib.hid hx
      go_wp2_with fail
      go_roundw
      case rel => exact ⟨trivial, j + 1, by go_num, by omega⟩
      case measure => simp [intOf]; omega
    · go_wp2_with fail
      go_ret
      exact ⟨rfl, rfl⟩
set_option maxHeartbeats 1000000 in
theorem at_hit (r : RM w B gq sz h m g v M) (hu : KUniq M) (i : Nat) (hi : i < M.length) (hik : M[i].1 = k) :
    Calls Try.prog 37 #[.pointer (some ⟨gq, 0, none⟩), .int .i64 k] w fun e w' => e = .returned (.int .i64 i) ∧ w = w' := by
  obtain ⟨A, c, rfl, hc, hr⟩ := r.o.rd
  have q1 : w.cell? ⟨gq, 1, none⟩ = some (.slice A M.length c) := blk_cell r.q 1
  have hln := r.ln
  have hH := Lib.hid hik
  have hU := Lib.hid hu
  have hR := Lib.hid hr
  clear r hik hu hr
  go_enter Try.func37, Try.ntmps37
  go_wp2_with fail
  go_loopw [5] (fun z wr => w = wr ∧ ∃ (j : Nat), z = .int .i64 j ∧ j ≤ i) (fun z _ => M.length - (intOf z).toNat)
  case atStart => exact ⟨rfl, 0, rfl, by omega⟩
  case round =>
    obtain ⟨rfl, j, rfl, hj⟩ := hrel
    have hlt : j < M.length := by omega
    obtain ⟨ad, rfl, hk, -⟩ := hR.out.at_ hlt
    obtain ⟨x, hx⟩ : ∃ x, x = M[j].1 := ⟨_, rfl⟩
    by_cases he : j = i
    · have hx2 : (x == k) = true := by subst he; rw [hx, hH.out]; simp
      rw [← hx] at hk
      replace hx := Lib.hid hx
      subst he
      go_wp2_with fail
      go_ret
      exact ⟨rfl, rfl⟩
    · have hne : (x == k) = false := by
        have := kv_ne hU.out hlt hi he
        rw [hH.out, ← hx] at this
        simpa using this
      rw [← hx] at hk
      replace hx := Lib.hid hx
      go_wp2_with fail
      go_roundw
      case rel => exact ⟨trivial, j + 1, by go_num, by omega⟩
      case measure => simp [intOf]; omega
omit B gq sz h m g v k in
theorem without_runs (A : Option Addr) (c : Nat) (hr : RdC w A M) (hc : M.length ≤ c) (hln : M.length ≤ 4097) (i : Nat) (hi : i < M.length) :
    ∃ A2 v1 w1 v2 w2, (∀ W : World, (Instr.slice 45 (.slice A M.length c) none (some (.int .i64 (i : Int))) none).run Try.prog W = .ok (.slice A i c) W) ∧
      (∀ W : World, (Instr.slice 45 (.slice A M.length c) (some (.int .i64 ((i : Int) + 1))) none none).run Try.prog W = .ok (.slice A2 (M.length - (i + 1)) (c - (i + 1))) W) ∧
      (Builtin.append_ #[45, 45] 45 #[.slice none 0 0, .slice A i c]).run Try.prog w.drew = .ok v1 w1 ∧ Below w.heap.size w.drew w1 ∧
      (Builtin.append_ #[45, 45] 45 #[v1, .slice A2 (M.length - (i + 1)) (c - (i + 1))]).run Try.prog w1 = .ok v2 w2 ∧ Below w.heap.size w1 w2 ∧ OwnP w2 w.heap.size v2 (M.eraseIdx i) := by
  have htl : (M.take i).length = i := by rw [List.length_take]; omega
  have hdl : (M.drop (i + 1)).length = M.length - (i + 1) := by rw [List.length_drop]
  obtain ⟨v1, w1, hr1, ho1, hg1, -⟩ := run_appP (W := w.drew) (B := w.heap.size) (v := .slice none 0 0) (M := []) (N := M.take i) (A := A) (c := c) (own_nil _ _ _ _) (RdC.take hr i) (Nat.le_refl _) (by rw [htl]; simp; omega) 45
  rw [htl] at hr1
  have hb1 : Below w.heap.size w.drew w1 := (Below.refl w.heap.size w.drew).grown hg1 (Nat.le_refl _) (fun k hk => by simp [Value.ownBlock] at hk)
  have hrd : RdC w1 (if c = i + 1 then A else A.map (·.add ((i + 1) * 2))) (M.drop (i + 1)) := RdC.drop (RdC.below (w := w.drew) hr hb1) hc (i + 1) (by omega)
  obtain ⟨v2, w2, hr2, ho2, hg2, -⟩ := run_appP (W := w1) (c := c - (i + 1)) (B := w.heap.size) ho1 hrd hb1.size (by rw [hdl, List.nil_append, htl]; omega) 45
  rw [hdl] at hr2
  refine ⟨_, v1, w1, v2, w2, fun W => run_hi A M.length c i (by omega) W, fun W => run_lo A M.length c (i + 1) (by omega) W, hr1, hb1, hr2, (Below.refl w.heap.size w1).grown hg2 hb1.size (own_base ho1), ?_⟩
  rw [List.eraseIdx_eq_take_drop_succ]
  exact ho2
set_option maxHeartbeats 2000000 in
theorem without_calls (r : RM w B gq sz h m g v M) (i : Nat) (hi : i < M.length) :
    Calls Try.prog 38 #[.pointer (some ⟨gq, 0, none⟩), .int .i64 i] w fun e w' => ∃ v1, e = .returned v1 ∧ OwnP w' w.heap.size v1 (M.eraseIdx i) ∧ Below w.heap.size w w' := by
  obtain ⟨A, c, rfl, hc, hr⟩ := r.o.rd
  have q1 : w.cell? ⟨gq, 1, none⟩ = some (.slice A M.length c) := blk_cell r.q 1
  have hqb : (⟨gq, 1, none⟩ : Addr).block < w.heap.size := blk_lt r.q
  have hln := r.ln
  obtain ⟨A2, v1, w1, v2, w2, hs1, hs2, hr1, hb1, hr2, hb2, ho2⟩ := without_runs w M A c hr hc hln i hi
  have e1 : wrap64 ((i : Int) + 1) = (i : Int) + 1 := by unfold wrap64; omega
  have hbf : Hid (Below w.heap.size w w2) := by
    have h0 : Below w.heap.size w w.drew := below_drew (Below.refl _ _)
    exact (h0.trans hb1).trans hb2
  obtain ⟨n2, hn2⟩ : ∃ n2, n2 = M.length - (i + 1) := ⟨_, rfl⟩
  obtain ⟨c2, hc2⟩ : ∃ c2, c2 = c - (i + 1) := ⟨_, rfl⟩
  rw [← hn2, ← hc2] at hr2
  simp only [← hn2, ← hc2] at hs2
  replace hb1 := Lib.hid hb1
  replace hb2 := Lib.hid hb2
  replace ho2 := Lib.hid ho2
  clear r hr hn2 hc2
  go_enter Try.func38, Try.ntmps38
  go_wp2_with fail
  refine start_ (n := 16) (S := fun w' => w'.cell? ⟨gq, 1, none⟩ = some (.slice A M.length c)) (ds := []) #[false, false, false, false, false, false, false, false, false, false, false, false, false, false, false, false] (by kernel_rfl) rfl rfl (q1) (fun hHeld => ?_)
  refine pure_ (i := 0) (N := some 5) (v := ?_) (a' := ?_) #[true, false, false, false, false, false, false, false, false, false, false, false, false, false, false, false] rfl rfl (by kernel_rfl) (fun _ _ _ h => h) (Or.inl ⟨by rfl, ?_⟩) ?_ ?_
  rotate_left
  · intro w'
    go_simp
    with_reducible rfl
  rotate_left
  · simp only [Act.put, List.setIfInBounds_toArray, List.set_cons_zero, List.set_cons_succ, i64_w, i32_w]
    rfl
  refine pure_ (i := 1) (N := some 6) (v := ?_) (a' := ?_) #[true, true, false, false, false, false, false, false, false, false, false, false, false, false, false, false] rfl rfl (by kernel_rfl) (fun _ _ _ h => h) (Or.inl ⟨by rfl, ?_⟩) ?_ ?_
  rotate_left
  · intro w'
    go_simp
    with_reducible rfl
  rotate_left
  · simp only [Act.put, List.setIfInBounds_toArray, List.set_cons_zero, List.set_cons_succ, i64_w, i32_w]
    rfl
  refine pure_ (i := 2) (N := some 7) (v := ?_) (a' := ?_) #[true, true, true, false, false, false, false, false, false, false, false, false, false, false, false, false] rfl rfl (by kernel_rfl) (fun _ _ _ h => h) (Or.inl ⟨by rfl, ?_⟩) ?_ ?_
  rotate_left
  · intro w'
    go_simp
    with_reducible rfl
  rotate_left
  · simp only [Act.put, List.setIfInBounds_toArray, List.set_cons_zero, List.set_cons_succ, i64_w, i32_w]
    rfl
  refine pure_ (i := 4) (N := some 9) (v := ?_) (a' := ?_) #[true, true, true, false, true, false, false, false, false, false, false, false, false, false, false, false] rfl rfl (by kernel_rfl) (fun _ _ _ h => h) (Or.inl ⟨by rfl, ?_⟩) ?_ ?_
  rotate_left
  · intro w'
    go_simp
    with_reducible rfl
  rotate_left
  · simp only [Act.put, List.setIfInBounds_toArray, List.set_cons_zero, List.set_cons_succ, i64_w, i32_w]
    rfl
  refine pure_ (i := 7) (N := some 12) (v := ?_) (a' := ?_) #[true, true, true, false, true, false, false, true, false, false, false, false, false, false, false, false] rfl rfl (by kernel_rfl) (fun _ _ _ h => h) (Or.inl ⟨by rfl, ?_⟩) ?_ ?_
  rotate_left
  · intro w'
    go_simp
    with_reducible rfl
  rotate_left
  · simp only [Act.put, List.setIfInBounds_toArray, List.set_cons_zero, List.set_cons_succ, i64_w, i32_w]
    rfl
  refine pure_ (i := 8) (N := some 13) (v := ?_) (a' := ?_) #[true, true, true, false, true, false, false, true, true, false, false, false, false, false, false, false] rfl rfl (by kernel_rfl) (fun _ _ _ h => h) (Or.inl ⟨by rfl, ?_⟩) ?_ ?_
  rotate_left
  · intro w'
    go_simp
    with_reducible rfl
  rotate_left
  · simp only [Act.put, List.setIfInBounds_toArray, List.set_cons_zero, List.set_cons_succ, i64_w, i32_w]
    rfl
  refine pure_ (i := 9) (N := some 14) (v := ?_) (a' := ?_) #[true, true, true, false, true, false, false, true, true, true, false, false, false, false, false, false] rfl rfl (by kernel_rfl) (fun _ _ _ h => h) (Or.inl ⟨by rfl, ?_⟩) ?_ ?_
  rotate_left
  · intro w'
    go_simp
    with_reducible rfl
  rotate_left
  · simp only [Act.put, List.setIfInBounds_toArray, List.set_cons_zero, List.set_cons_succ, i64_w, i32_w]
    rfl
  refine pure_ (i := 11) (N := some 16) (v := ?_) (a' := ?_) #[true, true, true, false, true, false, false, true, true, true, false, true, false, false, false, false] rfl rfl (by kernel_rfl) (fun _ _ _ h => h) (Or.inl ⟨by rfl, ?_⟩) ?_ ?_
  rotate_left
  · intro w'
    go_simp
    with_reducible rfl
  rotate_left
  · simp only [Act.put, List.setIfInBounds_toArray, List.set_cons_zero, List.set_cons_succ, i64_w, i32_w]
    rfl
  refine pure_ (i := 12) (N := some 17) (v := ?_) (a' := ?_) #[true, true, true, false, true, false, false, true, true, true, false, true, true, false, false, false] rfl rfl (by kernel_rfl) (fun _ _ _ h => h) (Or.inl ⟨by rfl, ?_⟩) ?_ ?_
  rotate_left
  · intro w'
    go_simp
    with_reducible rfl
  rotate_left
  · simp only [Act.put, List.setIfInBounds_toArray, List.set_cons_zero, List.set_cons_succ, i64_w, i32_w]
    rfl
  refine take_ (i := 3) (N := some 8) (v := ?_) (a' := ?_) #[true, true, true, true, true, false, false, true, true, true, false, true, true, false, false, false] rfl rfl (by kernel_rfl) (fun _ _ _ h => h) (Or.inl ⟨by rfl, ?_⟩) hHeld ?_ ?_
  rotate_left
  · intro w' s0
    go_simp
    with_reducible rfl
  rotate_left
  · simp only [Act.put, List.setIfInBounds_toArray, List.set_cons_zero, List.set_cons_succ, i64_w, i32_w]
    rfl
  refine pure_ (i := 5) (N := some 10) (v := ?_) (a' := ?_) #[true, true, true, true, true, true, false, true, true, true, false, true, true, false, false, false] rfl rfl (by kernel_rfl) (fun _ _ _ h => h) (Or.inl ⟨by rfl, ?_⟩) ?_ ?_
  rotate_left
  · intro w'
    go_simp
    with_reducible rfl
  rotate_left
  · simp only [Act.put, List.setIfInBounds_toArray, List.set_cons_zero, List.set_cons_succ, i64_w, i32_w]
    rfl
  refine take_ (i := 10) (N := some 15) (v := ?_) (a' := ?_) #[true, true, true, true, true, true, false, true, true, true, true, true, true, false, false, false] rfl rfl (by kernel_rfl) (fun _ _ _ h => h) (Or.inl ⟨by rfl, ?_⟩) hHeld ?_ ?_
  rotate_left
  · intro w' s0
    go_simp
    with_reducible rfl
  rotate_left
  · simp only [Act.put, List.setIfInBounds_toArray, List.set_cons_zero, List.set_cons_succ, i64_w, i32_w]
    rfl
  refine pure_ (i := 13) (N := some 18) (v := ?_) (a' := ?_) #[true, true, true, true, true, true, false, true, true, true, true, true, true, true, false, false] rfl rfl (by kernel_rfl) (fun _ _ _ h => h) (Or.inl ⟨by rfl, ?_⟩) ?_ ?_
  rotate_left
  · intro w'
    go_simp
    with_reducible rfl
  rotate_left
  · simp only [Act.put, List.setIfInBounds_toArray, List.set_cons_zero, List.set_cons_succ, i64_w, i32_w]
    rfl
  refine one_ (i := 6) (N := some 11) #[true, true, true, true, true, true, true, true, true, true, true, true, true, true, false, false] rfl rfl (by kernel_rfl) (by decide) (fun K hK => ?_)
  refine step_run_append rfl (.const (.slice none 0 0)) (.tmp 10) 45 rfl rfl rfl hr1 ?_
  refine hK.out _ _ ((pw_cell_below hb1.out hHeld)) (fun hHeld => ?_)
  clear hK K
  refine norm_ (a' := ?_) ?_ ?_
  rotate_left
  · show Act.put _ (some 11) _ = _
    simp only [Act.put, List.setIfInBounds_toArray, List.set_cons_zero, List.set_cons_succ, i64_w, i32_w]
    rfl
  refine one_ (i := 14) (N := some 19) #[true, true, true, true, true, true, true, true, true, true, true, true, true, true, true, false] rfl rfl (by kernel_rfl) (by decide) (fun K hK => ?_)
  refine step_run_append rfl (.tmp 11) (.tmp 18) 45 rfl rfl rfl hr2 ?_
  refine hK.out _ _ ((below_cell hb2.out hqb hHeld)) (fun hHeld => ?_)
  clear hK K
  refine norm_ (a' := ?_) ?_ ?_
  rotate_left
  · show Act.put _ (some 19) _ = _
    simp only [Act.put, List.setIfInBounds_toArray, List.set_cons_zero, List.set_cons_succ, i64_w, i32_w]
    rfl
  refine pure_ (i := 15) (N := some 4) (v := ?_) (a' := ?_) #[true, true, true, true, true, true, true, true, true, true, true, true, true, true, true, true] rfl rfl (by kernel_rfl) (fun _ _ _ h => h) (Or.inl ⟨by rfl, ?_⟩) ?_ ?_
  rotate_left
  · intro w'
    go_simp
    with_reducible rfl
  rotate_left
  · simp only [Act.put, List.setIfInBounds_toArray, List.set_cons_zero, List.set_cons_succ, i64_w, i32_w]
    rfl
  refine done_ (by kernel_rfl) ?_
  clear hHeld
  go_wp2_with fail
  go_ret
  exact ⟨_, rfl, ho2.out, hbf.out⟩
set_option maxHeartbeats 1000000 in
theorem RLook_miss (r : RM w B gq sz h m g v M) (hh : kvHas k M = false) :
    Calls Try.prog 33 #[.pointer (some ⟨gq, 0, none⟩), .int .i64 k] w fun e w' => e = .returned (.tuple #[.int .i64 0, .bool false]) ∧ w = w' := by
  have hat := Lib.hid (at_miss w B gq sz h m g v M k r hh)
  clear r
  go_enter Try.func33, Try.ntmps33
  go_wp2_with (first | (go_at_call 37; go_must (refine hat.out.mono ?_); rintro e w' ⟨rfl, rfl⟩))
  go_ret2
  exact ⟨rfl, rfl⟩
set_option maxHeartbeats 1000000 in
theorem RLook_hit (r : RM w B gq sz h m g v M) (hu : KUniq M) (i : Nat) (hi : i < M.length) (hik : M[i].1 = k) :
    Calls Try.prog 33 #[.pointer (some ⟨gq, 0, none⟩), .int .i64 k] w fun e w' => e = .returned (.tuple #[.int .i64 M[i].2, .bool true]) ∧ w = w' := by
  have hat := Lib.hid (at_hit w B gq sz h m g v M k r hu i hi hik)
  obtain ⟨A, c, rfl, hc, hr⟩ := r.o.rd
  have q1 : w.cell? ⟨gq, 1, none⟩ = some (.slice A M.length c) := blk_cell r.q 1
  obtain ⟨ad, rfl, -, hv⟩ := hr.at_ hi
  obtain ⟨x, hx⟩ : ∃ x, x = M[i].2 := ⟨_, rfl⟩
  rw [← hx] at hv ⊢
  have hln := r.ln
  clear r hik hu hr hx
  go_enter Try.func33, Try.ntmps33
  go_wp2_with (first | (go_at_call 37; go_must (refine hat.out.mono ?_); rintro e w' ⟨rfl, rfl⟩))
  go_ret2
  exact ⟨rfl, rfl⟩
end
end Go.Proofs.Ytecgbhiebaiokaa.G
