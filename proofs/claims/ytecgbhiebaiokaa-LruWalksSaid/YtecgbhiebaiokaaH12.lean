/- The contracts of Put of a new key. -/
import Derived.Test.YtecgbhiebaiokaaH11
namespace Go.Proofs.Ytecgbhiebaiokaa.G
open Go.RowKit Go.Proofs.YtecgbhiebaiokaaW.PrintWords Go.Proofs.YtecgbhiebaiokaaW.PrintLast Go.Proofs.YtecgbhiebaiokaaW.PrintMore
set_option linter.unusedSimpArgs false
set_option linter.unusedVariables false
set_option maxHeartbeats 2000000 in
theorem Put_I_room (w : World) (B gm gb : Nat) (most h m g : Int) (L : List (Ent Int)) (k : Int) (v : Int) (hB : B ≤ w.heap.size) (hM : Memo ktI w B gm gb most h m g L) (hk : ktI.ok k) (hh : has k L = false) (hlt : (L.length : Int) < most) :
    Calls Try.prog 10 #[.pointer (some ⟨gm, 0, none⟩), .int .i64 k, .int .i64 v] w fun e w' => e = .returned (.tuple #[.int .i64 0, .bool false]) ∧ ∃ ge, w.heap.size ≤ ge ∧ Memo ktI w' B gm gb most h m g (⟨k, v, ge⟩ :: L) ∧ Chg w w' (FM gm gb L) := by
  have q0 : w.cell? ⟨gm, 0, none⟩ = some (.int .i64 most) := blk_cell hM.ch.mem 0
  have q1 : w.cell? ⟨gm, 1, none⟩ = some (.map (some gb)) := blk_cell hM.ch.mem 1
  have hl : (Instr.lookup 63 (.map (some gb)) (.int .i64 k) false).run Try.prog w = .ok (.pointer none) w := by
    have := hM.mp.lookup klI hk
    rw [look_miss hh] at this
    exact this
  have hln : ∀ ty, (Builtin.len_ #[63] ty #[.map (some gb)]).run Try.prog w.drew = .ok (.int .i64 L.length) w.drew := fun ty => (hM.mp.drewN 1).len klI ty
  have hdec : decide (most ≤ (L.length : Int)) = false := by simp; omega
  have HM := Lib.hid hM
  clear hM
  go_enter Try.func10, Try.ntmps10
  go_wp2_with (first | (go_at_call 28; go_must (refine (made_I w B gm gb most h m g L HM.out).mono ?_); rintro e w' ⟨rfl, rfl⟩))
  refine start_ (n := 11) (S := fun w' => w'.cell? ⟨gm, 1, none⟩ = some (.map (some gb)) ∧ w'.cell? ⟨gm, 0, none⟩ = some (.int .i64 most)) (ds := []) #[false, false, false, false, false, false, false, false, false, false, false] (by kernel_rfl) rfl rfl ⟨q1, q0⟩ (fun hHeld => ?_)
  refine pure_ (i := 0) (N := some 36) (v := ?_) (a' := ?_) #[true, false, false, false, false, false, false, false, false, false, false] rfl rfl (by kernel_rfl) (fun _ _ _ h => h) (Or.inl ⟨by rfl, ?_⟩) ?_ ?_
  rotate_left
  · intro w'
    go_simp
    with_reducible rfl
  rotate_left
  · simp only [Act.put, List.setIfInBounds_toArray, List.set_cons_zero, List.set_cons_succ, i64_w, i32_w]
    rfl
  refine pure_ (i := 1) (N := some 37) (v := ?_) (a' := ?_) #[true, true, false, false, false, false, false, false, false, false, false] rfl rfl (by kernel_rfl) (fun _ _ _ h => h) (Or.inl ⟨by rfl, ?_⟩) ?_ ?_
  rotate_left
  · intro w'
    go_simp
    with_reducible rfl
  rotate_left
  · simp only [Act.put, List.setIfInBounds_toArray, List.set_cons_zero, List.set_cons_succ, i64_w, i32_w]
    rfl
  refine pure_ (i := 2) (N := some 38) (v := ?_) (a' := ?_) #[true, true, true, false, false, false, false, false, false, false, false] rfl rfl (by kernel_rfl) (fun _ _ _ h => h) (Or.inl ⟨by rfl, ?_⟩) ?_ ?_
  rotate_left
  · intro w'
    go_simp
    with_reducible rfl
  rotate_left
  · simp only [Act.put, List.setIfInBounds_toArray, List.set_cons_zero, List.set_cons_succ, i64_w, i32_w]
    rfl
  refine pure_ (i := 5) (N := some 41) (v := ?_) (a' := ?_) #[true, true, true, false, false, true, false, false, false, false, false] rfl rfl (by kernel_rfl) (fun _ _ _ h => h) (Or.inl ⟨by rfl, ?_⟩) ?_ ?_
  rotate_left
  · intro w'
    go_simp
    with_reducible rfl
  rotate_left
  · simp only [Act.put, List.setIfInBounds_toArray, List.set_cons_zero, List.set_cons_succ, i64_w, i32_w]
    rfl
  refine pure_ (i := 6) (N := some 42) (v := ?_) (a' := ?_) #[true, true, true, false, false, true, true, false, false, false, false] rfl rfl (by kernel_rfl) (fun _ _ _ h => h) (Or.inl ⟨by rfl, ?_⟩) ?_ ?_
  rotate_left
  · intro w'
    go_simp
    with_reducible rfl
  rotate_left
  · simp only [Act.put, List.setIfInBounds_toArray, List.set_cons_zero, List.set_cons_succ, i64_w, i32_w]
    rfl
  refine pure_ (i := 7) (N := some 43) (v := ?_) (a' := ?_) #[true, true, true, false, false, true, true, true, false, false, false] rfl rfl (by kernel_rfl) (fun _ _ _ h => h) (Or.inl ⟨by rfl, ?_⟩) ?_ ?_
  rotate_left
  · intro w'
    go_simp
    with_reducible rfl
  rotate_left
  · simp only [Act.put, List.setIfInBounds_toArray, List.set_cons_zero, List.set_cons_succ, i64_w, i32_w]
    rfl
  refine take_ (i := 3) (N := some 39) (v := ?_) (a' := ?_) #[true, true, true, true, false, true, true, true, false, false, false] rfl rfl (by kernel_rfl) (fun _ _ _ h => h) (Or.inl ⟨by rfl, ?_⟩) hHeld ?_ ?_
  rotate_left
  · rintro w' ⟨s0, s1⟩
    go_simp
    with_reducible rfl
  rotate_left
  · simp only [Act.put, List.setIfInBounds_toArray, List.set_cons_zero, List.set_cons_succ, i64_w, i32_w]
    rfl
  refine take_ (i := 8) (N := some 44) (v := ?_) (a' := ?_) #[true, true, true, true, false, true, true, true, true, false, false] rfl rfl (by kernel_rfl) (fun _ _ _ h => h) (Or.inl ⟨by rfl, ?_⟩) hHeld ?_ ?_
  rotate_left
  · rintro w' ⟨s0, s1⟩
    go_simp
    with_reducible rfl
  rotate_left
  · simp only [Act.put, List.setIfInBounds_toArray, List.set_cons_zero, List.set_cons_succ, i64_w, i32_w]
    rfl
  refine one_ (i := 4) (N := some 40) #[true, true, true, true, true, true, true, true, true, false, false] rfl rfl (by kernel_rfl) (by decide) (fun K hK => ?_)
  refine value_ (w1 := ?_) (v := ?_) (by rfl) rfl ?_ ?_
  rotate_left 2
  · go_simp
    constructor
    · rfl
    · rfl
  refine hK.out _ _ ⟨hHeld.1, hHeld.2⟩ (fun hHeld => ?_)
  clear hK K
  refine norm_ (a' := ?_) ?_ ?_
  rotate_left
  · show Act.put _ (some 40) _ = _
    simp only [Act.put, List.setIfInBounds_toArray, List.set_cons_zero, List.set_cons_succ, i64_w, i32_w]
    rfl
  refine pure_ (i := 9) (N := some 45) (v := ?_) (a' := ?_) #[true, true, true, true, true, true, true, true, true, true, false] rfl rfl (by kernel_rfl) (fun _ _ _ h => h) (Or.inl ⟨by rfl, ?_⟩) ?_ ?_
  rotate_left
  · intro w'
    go_simp
    with_reducible rfl
  rotate_left
  · simp only [Act.put, List.setIfInBounds_toArray, List.set_cons_zero, List.set_cons_succ, i64_w, i32_w]
    rfl
  refine pure_ (i := 10) (N := some 10) (v := ?_) (a' := ?_) #[true, true, true, true, true, true, true, true, true, true, true] rfl rfl (by kernel_rfl) (fun _ _ _ h => h) (Or.inl ⟨by rfl, ?_⟩) ?_ ?_
  rotate_left
  · intro w'
    go_simp
    with_reducible rfl
  rotate_left
  · simp only [Act.put, List.setIfInBounds_toArray, List.set_cons_zero, List.set_cons_succ, i64_w, i32_w]
    rfl
  refine done_ (by kernel_rfl) ?_
  clear hHeld q0 q1 hln
  have bA := below_alloc (Below.refl _ w) (.cells #[.int .i64 k, .int .i64 v, .pointer none, .pointer none] 74)
  have hMA := (HM.out.below bA).drewN 1
  have hbe : World.drew (w.alloc (.cells #[.int .i64 k, .int .i64 v, .pointer none, .pointer none] 74)) |>.heap[w.heap.size]? = some (.cells #[.int .i64 k, .int .i64 v, .pointer none, .pointer none] 74 (0, 0)) := heap_alloc_new _ _
  have q1 : World.cell? (w.alloc (.cells #[.int .i64 k, .int .i64 v, .pointer none, .pointer none] 74)) ⟨gm, 1, none⟩ = some (.map (some gb)) := blk_cell hMA.ch.mem 1
  obtain ⟨w2, hst, hmp2, hc2⟩ := hMA.mp.store klI (e := ⟨k, v, w.heap.size⟩) hk hh (by have := HM.out.m2; simp only [maxLen]; omega)
  have hst2 : (Instr.mapUpdate 63 (.map (some gb)) (.int .i64 k) (.pointer (some ⟨w.heap.size, 0, none⟩))).run Try.prog (World.drew (w.alloc (.cells #[.int .i64 k, .int .i64 v, .pointer none, .pointer none] 74))) = .ok () w2 := hst
  replace hMA := Lib.hid hMA
  replace hmp2 := Lib.hid hmp2
  replace hc2 := Lib.hid hc2
  replace hbe := Lib.hid hbe
  clear hst
  go_wp2_with fail
  have hne1 : gm ≠ gb := hMA.out.mp.ne hMA.out.ch.mem
  have hne2 : ∀ x ∈ L, x.g ≠ gb := fun x hx => by obtain ⟨j, hj, rfl⟩ := List.getElem_of_mem hx; exact hMA.out.mp.ne (hMA.out.ch.row j hj)
  have hne3 : w.heap.size ≠ gb := hMA.out.mp.ne hbe.out
  have hch2 := hMA.out.ch.chg hc2.out hne1 hne2
  have hbe2 := hc2.out.blk hbe.out hne3
  have hfresh : ∀ x ∈ L, x.g ≠ w.heap.size := fun x hx he => by have := (HM.out.fm x.g (.inr (.inr ⟨x, hx, rfl⟩))).2; omega
  refine (front_I w2 gm gb most h m g L ⟨k, v, w.heap.size⟩ hch2 hbe2 hfresh).mono ?_
  rintro e w3 ⟨rfl, hch4, hc4⟩
  replace hch4 := Lib.hid hch4
  replace hc4 := Lib.hid hc4
  clear hch2 hbe2
  go_wp2_with fail
  go_ret2
  have hmp4 := hmp2.out.chg hc4.out (fun hq => by
    rcases hq with h1 | h1 | ⟨x, hx, h1⟩
    · exact hne1 h1.symm
    · exact hne3 h1.symm
    · exact hne2 x hx h1)
  refine ⟨rfl, w.heap.size, Nat.le_refl _, ⟨hch4.out, hmp4, HM.out.bm, HM.out.bb, fun e he => ?_, ?_, fun e he => ?_, by rw [List.length_cons]; omega, HM.out.m1, HM.out.m2, HM.out.h0, HM.out.h1, HM.out.i0, HM.out.i1, HM.out.g0, HM.out.g1⟩, ?_⟩
  · rcases List.mem_cons.1 he with rfl | he
    · exact hB
    · exact HM.out.bg e he
  · refine List.nodup_cons.2 ⟨fun hm => ?_, HM.out.uq⟩
    obtain ⟨x, hx, hxk⟩ := List.mem_map.1 hm
    exact not_has_iff.1 hh x hx hxk
  · rcases List.mem_cons.1 he with rfl | he
    · exact hk
    · exact HM.out.okk e he
  · have c0 : Chg w (World.drew (w.alloc (.cells #[.int .i64 k, .int .i64 v, .pointer none, .pointer none] 74))) (FM gm gb L) := (Chg.of_below bA _).drewN 1
    exact (c0.trans hc2.out (fun z _ hz => .inr (.inl hz))).trans hc4.out (fun z hz hq => by
      rcases hq with rfl | rfl | ⟨x, hx, rfl⟩
      · exact .inl rfl
      · exact absurd hz (Nat.lt_irrefl _)
      · exact .inr (.inr ⟨x, hx, rfl⟩))
set_option maxHeartbeats 2000000 in
theorem Put_S_room (w : World) (B gm gb : Nat) (most h m g : Int) (L : List (Ent ByteArray)) (k : ByteArray) (v : Int) (hB : B ≤ w.heap.size) (hM : Memo ktS w B gm gb most h m g L) (hk : ktS.ok k) (hh : has k L = false) (hlt : (L.length : Int) < most) :
    Calls Try.prog 25 #[.pointer (some ⟨gm, 0, none⟩), .string k, .int .i64 v] w fun e w' => e = .returned (.tuple #[.string ⟨#[]⟩, .bool false]) ∧ ∃ ge, w.heap.size ≤ ge ∧ Memo ktS w' B gm gb most h m g (⟨k, v, ge⟩ :: L) ∧ Chg w w' (FM gm gb L) := by
  have q0 : w.cell? ⟨gm, 0, none⟩ = some (.int .i64 most) := blk_cell hM.ch.mem 0
  have q1 : w.cell? ⟨gm, 1, none⟩ = some (.map (some gb)) := blk_cell hM.ch.mem 1
  have hl : (Instr.lookup 79 (.map (some gb)) (.string k) false).run Try.prog w = .ok (.pointer none) w := by
    have := hM.mp.lookup klS hk
    rw [look_miss hh] at this
    exact this
  have hln : ∀ ty, (Builtin.len_ #[79] ty #[.map (some gb)]).run Try.prog w.drew = .ok (.int .i64 L.length) w.drew := fun ty => (hM.mp.drewN 1).len klS ty
  have hdec : decide (most ≤ (L.length : Int)) = false := by simp; omega
  have HM := Lib.hid hM
  clear hM
  go_enter Try.func25, Try.ntmps25
  go_wp2_with (first | (go_at_call 39; go_must (refine (made_S w B gm gb most h m g L HM.out).mono ?_); rintro e w' ⟨rfl, rfl⟩))
  refine start_ (n := 11) (S := fun w' => w'.cell? ⟨gm, 1, none⟩ = some (.map (some gb)) ∧ w'.cell? ⟨gm, 0, none⟩ = some (.int .i64 most)) (ds := []) #[false, false, false, false, false, false, false, false, false, false, false] (by kernel_rfl) rfl rfl ⟨q1, q0⟩ (fun hHeld => ?_)
  refine pure_ (i := 0) (N := some 36) (v := ?_) (a' := ?_) #[true, false, false, false, false, false, false, false, false, false, false] rfl rfl (by kernel_rfl) (fun _ _ _ h => h) (Or.inl ⟨by rfl, ?_⟩) ?_ ?_
  rotate_left
  · intro w'
    go_simp
    with_reducible rfl
  rotate_left
  · simp only [Act.put, List.setIfInBounds_toArray, List.set_cons_zero, List.set_cons_succ, i64_w, i32_w]
    rfl
  refine pure_ (i := 1) (N := some 37) (v := ?_) (a' := ?_) #[true, true, false, false, false, false, false, false, false, false, false] rfl rfl (by kernel_rfl) (fun _ _ _ h => h) (Or.inl ⟨by rfl, ?_⟩) ?_ ?_
  rotate_left
  · intro w'
    go_simp
    with_reducible rfl
  rotate_left
  · simp only [Act.put, List.setIfInBounds_toArray, List.set_cons_zero, List.set_cons_succ, i64_w, i32_w]
    rfl
  refine pure_ (i := 2) (N := some 38) (v := ?_) (a' := ?_) #[true, true, true, false, false, false, false, false, false, false, false] rfl rfl (by kernel_rfl) (fun _ _ _ h => h) (Or.inl ⟨by rfl, ?_⟩) ?_ ?_
  rotate_left
  · intro w'
    go_simp
    with_reducible rfl
  rotate_left
  · simp only [Act.put, List.setIfInBounds_toArray, List.set_cons_zero, List.set_cons_succ, i64_w, i32_w]
    rfl
  refine pure_ (i := 5) (N := some 41) (v := ?_) (a' := ?_) #[true, true, true, false, false, true, false, false, false, false, false] rfl rfl (by kernel_rfl) (fun _ _ _ h => h) (Or.inl ⟨by rfl, ?_⟩) ?_ ?_
  rotate_left
  · intro w'
    go_simp
    with_reducible rfl
  rotate_left
  · simp only [Act.put, List.setIfInBounds_toArray, List.set_cons_zero, List.set_cons_succ, i64_w, i32_w]
    rfl
  refine pure_ (i := 6) (N := some 42) (v := ?_) (a' := ?_) #[true, true, true, false, false, true, true, false, false, false, false] rfl rfl (by kernel_rfl) (fun _ _ _ h => h) (Or.inl ⟨by rfl, ?_⟩) ?_ ?_
  rotate_left
  · intro w'
    go_simp
    with_reducible rfl
  rotate_left
  · simp only [Act.put, List.setIfInBounds_toArray, List.set_cons_zero, List.set_cons_succ, i64_w, i32_w]
    rfl
  refine pure_ (i := 7) (N := some 43) (v := ?_) (a' := ?_) #[true, true, true, false, false, true, true, true, false, false, false] rfl rfl (by kernel_rfl) (fun _ _ _ h => h) (Or.inl ⟨by rfl, ?_⟩) ?_ ?_
  rotate_left
  · intro w'
    go_simp
    with_reducible rfl
  rotate_left
  · simp only [Act.put, List.setIfInBounds_toArray, List.set_cons_zero, List.set_cons_succ, i64_w, i32_w]
    rfl
  refine take_ (i := 3) (N := some 39) (v := ?_) (a' := ?_) #[true, true, true, true, false, true, true, true, false, false, false] rfl rfl (by kernel_rfl) (fun _ _ _ h => h) (Or.inl ⟨by rfl, ?_⟩) hHeld ?_ ?_
  rotate_left
  · rintro w' ⟨s0, s1⟩
    go_simp
    with_reducible rfl
  rotate_left
  · simp only [Act.put, List.setIfInBounds_toArray, List.set_cons_zero, List.set_cons_succ, i64_w, i32_w]
    rfl
  refine take_ (i := 8) (N := some 44) (v := ?_) (a' := ?_) #[true, true, true, true, false, true, true, true, true, false, false] rfl rfl (by kernel_rfl) (fun _ _ _ h => h) (Or.inl ⟨by rfl, ?_⟩) hHeld ?_ ?_
  rotate_left
  · rintro w' ⟨s0, s1⟩
    go_simp
    with_reducible rfl
  rotate_left
  · simp only [Act.put, List.setIfInBounds_toArray, List.set_cons_zero, List.set_cons_succ, i64_w, i32_w]
    rfl
  refine one_ (i := 4) (N := some 40) #[true, true, true, true, true, true, true, true, true, false, false] rfl rfl (by kernel_rfl) (by decide) (fun K hK => ?_)
  refine value_ (w1 := ?_) (v := ?_) (by rfl) rfl ?_ ?_
  rotate_left 2
  · go_simp
    constructor
    · rfl
    · rfl
  refine hK.out _ _ ⟨hHeld.1, hHeld.2⟩ (fun hHeld => ?_)
  clear hK K
  refine norm_ (a' := ?_) ?_ ?_
  rotate_left
  · show Act.put _ (some 40) _ = _
    simp only [Act.put, List.setIfInBounds_toArray, List.set_cons_zero, List.set_cons_succ, i64_w, i32_w]
    rfl
  refine pure_ (i := 9) (N := some 45) (v := ?_) (a' := ?_) #[true, true, true, true, true, true, true, true, true, true, false] rfl rfl (by kernel_rfl) (fun _ _ _ h => h) (Or.inl ⟨by rfl, ?_⟩) ?_ ?_
  rotate_left
  · intro w'
    go_simp
    with_reducible rfl
  rotate_left
  · simp only [Act.put, List.setIfInBounds_toArray, List.set_cons_zero, List.set_cons_succ, i64_w, i32_w]
    rfl
  refine pure_ (i := 10) (N := some 10) (v := ?_) (a' := ?_) #[true, true, true, true, true, true, true, true, true, true, true] rfl rfl (by kernel_rfl) (fun _ _ _ h => h) (Or.inl ⟨by rfl, ?_⟩) ?_ ?_
  rotate_left
  · intro w'
    go_simp
    with_reducible rfl
  rotate_left
  · simp only [Act.put, List.setIfInBounds_toArray, List.set_cons_zero, List.set_cons_succ, i64_w, i32_w]
    rfl
  refine done_ (by kernel_rfl) ?_
  clear hHeld q0 q1 hln
  have bA := below_alloc (Below.refl _ w) (.cells #[.string k, .int .i64 v, .pointer none, .pointer none] 84)
  have hMA := (HM.out.below bA).drewN 1
  have hbe : World.drew (w.alloc (.cells #[.string k, .int .i64 v, .pointer none, .pointer none] 84)) |>.heap[w.heap.size]? = some (.cells #[.string k, .int .i64 v, .pointer none, .pointer none] 84 (0, 0)) := heap_alloc_new _ _
  have q1 : World.cell? (w.alloc (.cells #[.string k, .int .i64 v, .pointer none, .pointer none] 84)) ⟨gm, 1, none⟩ = some (.map (some gb)) := blk_cell hMA.ch.mem 1
  obtain ⟨w2, hst, hmp2, hc2⟩ := hMA.mp.store klS (e := ⟨k, v, w.heap.size⟩) hk hh (by have := HM.out.m2; simp only [maxLen]; omega)
  have hst2 : (Instr.mapUpdate 79 (.map (some gb)) (.string k) (.pointer (some ⟨w.heap.size, 0, none⟩))).run Try.prog (World.drew (w.alloc (.cells #[.string k, .int .i64 v, .pointer none, .pointer none] 84))) = .ok () w2 := hst
  replace hMA := Lib.hid hMA
  replace hmp2 := Lib.hid hmp2
  replace hc2 := Lib.hid hc2
  replace hbe := Lib.hid hbe
  clear hst
  go_wp2_with fail
  have hne1 : gm ≠ gb := hMA.out.mp.ne hMA.out.ch.mem
  have hne2 : ∀ x ∈ L, x.g ≠ gb := fun x hx => by obtain ⟨j, hj, rfl⟩ := List.getElem_of_mem hx; exact hMA.out.mp.ne (hMA.out.ch.row j hj)
  have hne3 : w.heap.size ≠ gb := hMA.out.mp.ne hbe.out
  have hch2 := hMA.out.ch.chg hc2.out hne1 hne2
  have hbe2 := hc2.out.blk hbe.out hne3
  have hfresh : ∀ x ∈ L, x.g ≠ w.heap.size := fun x hx he => by have := (HM.out.fm x.g (.inr (.inr ⟨x, hx, rfl⟩))).2; omega
  refine (front_S w2 gm gb most h m g L ⟨k, v, w.heap.size⟩ hch2 hbe2 hfresh).mono ?_
  rintro e w3 ⟨rfl, hch4, hc4⟩
  replace hch4 := Lib.hid hch4
  replace hc4 := Lib.hid hc4
  clear hch2 hbe2
  go_wp2_with fail
  go_ret2
  have hmp4 := hmp2.out.chg hc4.out (fun hq => by
    rcases hq with h1 | h1 | ⟨x, hx, h1⟩
    · exact hne1 h1.symm
    · exact hne3 h1.symm
    · exact hne2 x hx h1)
  refine ⟨rfl, w.heap.size, Nat.le_refl _, ⟨hch4.out, hmp4, HM.out.bm, HM.out.bb, fun e he => ?_, ?_, fun e he => ?_, by rw [List.length_cons]; omega, HM.out.m1, HM.out.m2, HM.out.h0, HM.out.h1, HM.out.i0, HM.out.i1, HM.out.g0, HM.out.g1⟩, ?_⟩
  · rcases List.mem_cons.1 he with rfl | he
    · exact hB
    · exact HM.out.bg e he
  · refine List.nodup_cons.2 ⟨fun hm => ?_, HM.out.uq⟩
    obtain ⟨x, hx, hxk⟩ := List.mem_map.1 hm
    exact not_has_iff.1 hh x hx hxk
  · rcases List.mem_cons.1 he with rfl | he
    · exact hk
    · exact HM.out.okk e he
  · have c0 : Chg w (World.drew (w.alloc (.cells #[.string k, .int .i64 v, .pointer none, .pointer none] 84))) (FM gm gb L) := (Chg.of_below bA _).drewN 1
    exact (c0.trans hc2.out (fun z _ hz => .inr (.inl hz))).trans hc4.out (fun z hz hq => by
      rcases hq with rfl | rfl | ⟨x, hx, rfl⟩
      · exact .inl rfl
      · exact absurd hz (Nat.lt_irrefl _)
      · exact .inr (.inr ⟨x, hx, rfl⟩))
end Go.Proofs.Ytecgbhiebaiokaa.G
