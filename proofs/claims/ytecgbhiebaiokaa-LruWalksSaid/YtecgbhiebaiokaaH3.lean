/- The contract of cut. -/
import Derived.Test.YtecgbhiebaiokaaH2
namespace Go.Proofs.Ytecgbhiebaiokaa.G
open Go.RowKit Go.Proofs.YtecgbhiebaiokaaW.PrintWords Go.Proofs.YtecgbhiebaiokaaW.PrintLast Go.Proofs.YtecgbhiebaiokaaW.PrintMore
set_option linter.unusedSimpArgs false
set_option linter.unusedVariables false
set_option maxHeartbeats 2000000 in
theorem cut_I_ff (w : World) (gm gb : Nat) (most h m g : Int) (L : List (Ent Int)) (i : Nat) (hi : i < L.length) (hr : RowF ktI w L (nwAt L) (olAt L)) (hm : MemF ktI w gm gb most (gAt L 0) (lastG L) h m g) (hu : GUniq L) (hne : ∀ j, (hj : j < L.length) → L[j].g ≠ gm) (ge : Nat) (hge : ge = L[i].g) (hsl : ¬ i + 1 < L.length) (hi0 : i = 0) (hnw : nwAt L i = none) (hol : olAt L i = none) :
    Calls Try.prog 29 #[.pointer (some ⟨gm, 0, none⟩), .pointer (some ⟨ge, 0, none⟩)] w fun e w' => e = .returned (.tuple #[]) ∧ Chain ktI w' gm gb most h m g (L.eraseIdx i) ∧ w'.heap[ge]? = some (.cells #[ktI.val L[i].k, .int .i64 L[i].v, .pointer none, .pointer none] ktI.tE (0, 0)) ∧ Chg w w' (fun q => q = gm ∨ ∃ e ∈ L, e.g = q) := by
  have hri := hr i hi
  replace hge := Lib.hid hge
  replace hnw := Lib.hid hnw
  replace hol := Lib.hid hol
  replace hi0 := Lib.hid hi0
  have q2 : w.cell? ⟨ge, 2, none⟩ = some (.pointer none) := by have := blk_cell (hr i hi) 2; rw [hnw.out] at this; rw [hge.out]; exact this
  have q3 : w.cell? ⟨ge, 3, none⟩ = some (.pointer none) := by have := blk_cell (hr i hi) 3; rw [hol.out] at this; rw [hge.out]; exact this
  go_enter Try.func29, Try.ntmps29
  have hr1 : RowF ktI (w.setCell ⟨gm, 2, none⟩ (.pointer none)) L (nwAt L) (olAt L) := hr.far (fun j hj => hne j hj) _
  have hm1 : MemF ktI (w.setCell ⟨gm, 2, none⟩ (.pointer none)) gm gb most (olAt L i) (lastG L) h m g := by have := hm.set2 (olAt L i); rw [hol.out] at this ⊢; exact this
  have hc1 : Chg w (w.setCell ⟨gm, 2, none⟩ (.pointer none)) (fun q => q = gm ∨ ∃ e ∈ L, e.g = q) := (Chg.refl w _).set_ (.inl rfl) _
  have hfz := blk_frozen hm 2
  have cm := blk_cell hm 2
  simp only [List.getElem?_toArray, List.getElem?_cons_zero, List.getElem?_cons_succ] at cm
  have q2a : World.cell? (w.setCell ⟨gm, 2, none⟩ (.pointer none)) ⟨ge, 2, none⟩ = some (.pointer none) := by have := blk_cell (hr1 i hi) 2; rw [hnw.out] at this; rw [hge.out]; exact this
  have q3a : World.cell? (w.setCell ⟨gm, 2, none⟩ (.pointer none)) ⟨ge, 3, none⟩ = some (.pointer none) := by have := blk_cell (hr1 i hi) 3; rw [hol.out] at this; rw [hge.out]; exact this
  have hfz2 := blk_frozen hm1 3
  have cm2 := blk_cell hm1 3
  simp only [List.getElem?_toArray, List.getElem?_cons_zero, List.getElem?_cons_succ] at cm2
  have hr2 : RowF ktI (World.setCell (w.setCell ⟨gm, 2, none⟩ (.pointer none)) ⟨gm, 3, none⟩ (.pointer none)) L (nwAt L) (olAt L) := hr1.far (fun j hj => hne j hj) _
  have hm2 : MemF ktI (World.setCell (w.setCell ⟨gm, 2, none⟩ (.pointer none)) ⟨gm, 3, none⟩ (.pointer none)) gm gb most (olAt L i) (nwAt L i) h m g := by have := hm1.set3 (nwAt L i); rw [hnw.out] at this ⊢; exact this
  have hc2 : Chg w (World.setCell (w.setCell ⟨gm, 2, none⟩ (.pointer none)) ⟨gm, 3, none⟩ (.pointer none)) (fun q => q = gm ∨ ∃ e ∈ L, e.g = q) := hc1.set_ (.inl rfl) _
  have hf2 : World.frozen? (World.setCell (w.setCell ⟨gm, 2, none⟩ (.pointer none)) ⟨gm, 3, none⟩ (.pointer none)) ⟨ge, 2, none⟩ = false := by rw [hge.out]; exact blk_frozen (hr2 i hi) 2
  have ce2 := blk_cell (hr2 i hi) 2
  rw [← hge.out] at ce2
  simp only [List.getElem?_toArray, List.getElem?_cons_zero, List.getElem?_cons_succ] at ce2
  have hr3 : RowF ktI (World.setCell (World.setCell (w.setCell ⟨gm, 2, none⟩ (.pointer none)) ⟨gm, 3, none⟩ (.pointer none)) ⟨ge, 2, none⟩ (.pointer none)) L (upd (nwAt L) i none) (olAt L) := by rw [hge.out]; exact hr2.set2 hu hi none
  have hm3 : MemF ktI (World.setCell (World.setCell (w.setCell ⟨gm, 2, none⟩ (.pointer none)) ⟨gm, 3, none⟩ (.pointer none)) ⟨ge, 2, none⟩ (.pointer none)) gm gb most (olAt L i) (nwAt L i) h m g := hm2.far (by rw [hge.out]; exact (hne i hi).symm) _
  have hc3 : Chg w (World.setCell (World.setCell (w.setCell ⟨gm, 2, none⟩ (.pointer none)) ⟨gm, 3, none⟩ (.pointer none)) ⟨ge, 2, none⟩ (.pointer none)) (fun q => q = gm ∨ ∃ e ∈ L, e.g = q) := hc2.set_ (.inr ⟨L[i], List.getElem_mem _, hge.out.symm⟩) _
  have hf3 : World.frozen? (World.setCell (World.setCell (w.setCell ⟨gm, 2, none⟩ (.pointer none)) ⟨gm, 3, none⟩ (.pointer none)) ⟨ge, 2, none⟩ (.pointer none)) ⟨ge, 3, none⟩ = false := by have := blk_frozen (hr3 i hi) 3; rwa [← hge.out] at this
  have ce3 := blk_cell (hr3 i hi) 3
  rw [← hge.out] at ce3
  simp only [List.getElem?_toArray, List.getElem?_cons_zero, List.getElem?_cons_succ] at ce3
  have hr4 : RowF ktI (World.setCell (World.setCell (World.setCell (w.setCell ⟨gm, 2, none⟩ (.pointer none)) ⟨gm, 3, none⟩ (.pointer none)) ⟨ge, 2, none⟩ (.pointer none)) ⟨ge, 3, none⟩ (.pointer none)) L (upd (nwAt L) i none) (upd (olAt L) i none) := by have := hr3.set3 hu hi none; rwa [← hge.out] at this
  have hm4 : MemF ktI (World.setCell (World.setCell (World.setCell (w.setCell ⟨gm, 2, none⟩ (.pointer none)) ⟨gm, 3, none⟩ (.pointer none)) ⟨ge, 2, none⟩ (.pointer none)) ⟨ge, 3, none⟩ (.pointer none)) gm gb most (olAt L i) (nwAt L i) h m g := hm3.far (by rw [hge.out]; exact (hne i hi).symm) _
  have hc4 : Chg w (World.setCell (World.setCell (World.setCell (w.setCell ⟨gm, 2, none⟩ (.pointer none)) ⟨gm, 3, none⟩ (.pointer none)) ⟨ge, 2, none⟩ (.pointer none)) ⟨ge, 3, none⟩ (.pointer none)) (fun q => q = gm ∨ ∃ e ∈ L, e.g = q) := hc3.set_ (.inr ⟨L[i], List.getElem_mem _, hge.out.symm⟩) _
  replace hr4 := Lib.hid hr4
  replace hm4 := Lib.hid hm4
  replace hc4 := Lib.hid hc4
  clear hr hm hr2 hm2 hc2 hr3 hm3 hc3 hr1 hm1 hc1
  go_wp2_with fail
  refine bodyPost_end (v := .tuple #[]) (by simp [results, Try.results29, go_sem]) rfl ⟨rfl, Chain.erase hi hu ?_ ?_, ?_, hc4.out⟩
  all_goals have hi02 := hi0.out
  · have h1 := hm4.out
    rw [if_pos hi02, if_pos (by omega)]; rw [show olAt L i = gAt L 1 from by rw [hi02]; rfl] at h1
    exact h1
  · refine hr4.out.cong (fun j hj => ?_) (fun j hj => ?_)
    · unfold upd
      try dsimp only
      repeat' split
      all_goals first | rfl | omega | (exfalso; omega)
    · unfold upd
      try dsimp only
      repeat' split
      all_goals first | rfl | omega | (exfalso; omega)
  · have h1 := hr4.out i hi
    rw [← hge.out] at h1
    simpa [upd, ptr] using h1
set_option maxHeartbeats 2000000 in
theorem cut_I_ft (w : World) (gm gb : Nat) (most h m g : Int) (L : List (Ent Int)) (i : Nat) (hi : i < L.length) (hr : RowF ktI w L (nwAt L) (olAt L)) (hm : MemF ktI w gm gb most (gAt L 0) (lastG L) h m g) (hu : GUniq L) (hne : ∀ j, (hj : j < L.length) → L[j].g ≠ gm) (ge : Nat) (hge : ge = L[i].g) (gs : Nat) (hsl : i + 1 < L.length) (hgs : gs = L[i + 1].g) (hi0 : i = 0) (hnw : nwAt L i = none) (hol : olAt L i = some gs) :
    Calls Try.prog 29 #[.pointer (some ⟨gm, 0, none⟩), .pointer (some ⟨ge, 0, none⟩)] w fun e w' => e = .returned (.tuple #[]) ∧ Chain ktI w' gm gb most h m g (L.eraseIdx i) ∧ w'.heap[ge]? = some (.cells #[ktI.val L[i].k, .int .i64 L[i].v, .pointer none, .pointer none] ktI.tE (0, 0)) ∧ Chg w w' (fun q => q = gm ∨ ∃ e ∈ L, e.g = q) := by
  have hri := hr i hi
  replace hge := Lib.hid hge
  replace hnw := Lib.hid hnw
  replace hol := Lib.hid hol
  replace hgs := Lib.hid hgs
  replace hi0 := Lib.hid hi0
  have q2 : w.cell? ⟨ge, 2, none⟩ = some (.pointer none) := by have := blk_cell (hr i hi) 2; rw [hnw.out] at this; rw [hge.out]; exact this
  have q3 : w.cell? ⟨ge, 3, none⟩ = some (.pointer (some ⟨gs, 0, none⟩)) := by have := blk_cell (hr i hi) 3; rw [hol.out] at this; rw [hge.out]; exact this
  go_enter Try.func29, Try.ntmps29
  have hr1 : RowF ktI (w.setCell ⟨gm, 2, none⟩ (.pointer (some ⟨gs, 0, none⟩))) L (nwAt L) (olAt L) := hr.far (fun j hj => hne j hj) _
  have hm1 : MemF ktI (w.setCell ⟨gm, 2, none⟩ (.pointer (some ⟨gs, 0, none⟩))) gm gb most (olAt L i) (lastG L) h m g := by have := hm.set2 (olAt L i); rw [hol.out] at this ⊢; exact this
  have hc1 : Chg w (w.setCell ⟨gm, 2, none⟩ (.pointer (some ⟨gs, 0, none⟩))) (fun q => q = gm ∨ ∃ e ∈ L, e.g = q) := (Chg.refl w _).set_ (.inl rfl) _
  have hfz := blk_frozen hm 2
  have cm := blk_cell hm 2
  simp only [List.getElem?_toArray, List.getElem?_cons_zero, List.getElem?_cons_succ] at cm
  have q2a : World.cell? (w.setCell ⟨gm, 2, none⟩ (.pointer (some ⟨gs, 0, none⟩))) ⟨ge, 2, none⟩ = some (.pointer none) := by have := blk_cell (hr1 i hi) 2; rw [hnw.out] at this; rw [hge.out]; exact this
  have q3a : World.cell? (w.setCell ⟨gm, 2, none⟩ (.pointer (some ⟨gs, 0, none⟩))) ⟨ge, 3, none⟩ = some (.pointer (some ⟨gs, 0, none⟩)) := by have := blk_cell (hr1 i hi) 3; rw [hol.out] at this; rw [hge.out]; exact this
  go_wp2_with fail
  obtain ⟨W1, hW1⟩ : ∃ W1, W1 = (w.setCell ⟨gm, 2, none⟩ (.pointer (some ⟨gs, 0, none⟩))) := ⟨_, rfl⟩
  rw [← hW1] at hr1 hm1 hc1 q2a q3a ⊢
  clear hW1 cm
  replace q2 := q2a
  replace q3 := q3a
  have hfz := blk_frozen (hr1 (i + 1) hsl) 2
  rw [← hgs.out] at hfz
  have hbs := hr1 (i + 1) hsl
  rw [← hgs.out] at hbs
  refine start_ (n := 11) (S := fun w' => w'.cell? ⟨ge, 2, none⟩ = some (.pointer none) ∧ w'.cell? ⟨ge, 3, none⟩ = some (.pointer (some ⟨gs, 0, none⟩))) (ds := [10]) #[false, false, false, false, false, false, false, false, false, false, false] (by kernel_rfl) rfl rfl ⟨q2, q3⟩ (fun hHeld => ?_)
  refine pure_ (i := 0) (N := some 38) (v := ?_) (a' := ?_) #[true, false, false, false, false, false, false, false, false, false, false] rfl rfl (by kernel_rfl) (fun _ _ _ h => h) (Or.inl ⟨by rfl, ?_⟩) ?_ ?_
  rotate_left
  · intro w'
    go_simp
    with_reducible rfl
  rotate_left
  · simp only [Act.put, List.setIfInBounds_toArray, List.set_cons_zero, List.set_cons_succ, i64_w, i32_w]
    rfl
  refine pure_ (i := 1) (N := some 39) (v := ?_) (a' := ?_) #[true, true, false, false, false, false, false, false, false, false, false] rfl rfl (by kernel_rfl) (fun _ _ _ h => h) (Or.inl ⟨by rfl, ?_⟩) ?_ ?_
  rotate_left
  · intro w'
    go_simp
    with_reducible rfl
  rotate_left
  · simp only [Act.put, List.setIfInBounds_toArray, List.set_cons_zero, List.set_cons_succ, i64_w, i32_w]
    rfl
  refine pure_ (i := 2) (N := some 40) (v := ?_) (a' := ?_) #[true, true, true, false, false, false, false, false, false, false, false] rfl rfl (by kernel_rfl) (fun _ _ _ h => h) (Or.inl ⟨by rfl, ?_⟩) ?_ ?_
  rotate_left
  · intro w'
    go_simp
    with_reducible rfl
  rotate_left
  · simp only [Act.put, List.setIfInBounds_toArray, List.set_cons_zero, List.set_cons_succ, i64_w, i32_w]
    rfl
  refine pure_ (i := 4) (N := some 42) (v := ?_) (a' := ?_) #[true, true, true, false, true, false, false, false, false, false, false] rfl rfl (by kernel_rfl) (fun _ _ _ h => h) (Or.inl ⟨by rfl, ?_⟩) ?_ ?_
  rotate_left
  · intro w'
    go_simp
    with_reducible rfl
  rotate_left
  · simp only [Act.put, List.setIfInBounds_toArray, List.set_cons_zero, List.set_cons_succ, i64_w, i32_w]
    rfl
  refine pure_ (i := 5) (N := some 43) (v := ?_) (a' := ?_) #[true, true, true, false, true, true, false, false, false, false, false] rfl rfl (by kernel_rfl) (fun _ _ _ h => h) (Or.inl ⟨by rfl, ?_⟩) ?_ ?_
  rotate_left
  · intro w'
    go_simp
    with_reducible rfl
  rotate_left
  · simp only [Act.put, List.setIfInBounds_toArray, List.set_cons_zero, List.set_cons_succ, i64_w, i32_w]
    rfl
  refine pure_ (i := 6) (N := some 44) (v := ?_) (a' := ?_) #[true, true, true, false, true, true, true, false, false, false, false] rfl rfl (by kernel_rfl) (fun _ _ _ h => h) (Or.inl ⟨by rfl, ?_⟩) ?_ ?_
  rotate_left
  · intro w'
    go_simp
    with_reducible rfl
  rotate_left
  · simp only [Act.put, List.setIfInBounds_toArray, List.set_cons_zero, List.set_cons_succ, i64_w, i32_w]
    rfl
  refine take_ (i := 3) (N := some 41) (v := ?_) (a' := ?_) #[true, true, true, true, true, true, true, false, false, false, false] rfl rfl (by kernel_rfl) (fun _ _ _ h => h) (Or.inl ⟨by rfl, ?_⟩) hHeld ?_ ?_
  rotate_left
  · rintro w' ⟨s0, s1⟩
    go_simp
    with_reducible rfl
  rotate_left
  · simp only [Act.put, List.setIfInBounds_toArray, List.set_cons_zero, List.set_cons_succ, i64_w, i32_w]
    rfl
  refine take_ (i := 7) (N := some 45) (v := ?_) (a' := ?_) #[true, true, true, true, true, true, true, true, false, false, false] rfl rfl (by kernel_rfl) (fun _ _ _ h => h) (Or.inl ⟨by rfl, ?_⟩) hHeld ?_ ?_
  rotate_left
  · rintro w' ⟨s0, s1⟩
    go_simp
    with_reducible rfl
  rotate_left
  · simp only [Act.put, List.setIfInBounds_toArray, List.set_cons_zero, List.set_cons_succ, i64_w, i32_w]
    rfl
  refine pure_ (i := 8) (N := some 46) (v := ?_) (a' := ?_) #[true, true, true, true, true, true, true, true, true, false, false] rfl rfl (by kernel_rfl) (fun _ _ _ h => h) (Or.inl ⟨by rfl, ?_⟩) ?_ ?_
  rotate_left
  · intro w'
    go_simp
    with_reducible rfl
  rotate_left
  · simp only [Act.put, List.setIfInBounds_toArray, List.set_cons_zero, List.set_cons_succ, i64_w, i32_w]
    rfl
  refine pure_ (i := 9) (N := some 47) (v := ?_) (a' := ?_) #[true, true, true, true, true, true, true, true, true, true, false] rfl rfl (by kernel_rfl) (fun _ _ _ h => h) (Or.inl ⟨by rfl, ?_⟩) ?_ ?_
  rotate_left
  · intro w'
    go_simp
    with_reducible rfl
  rotate_left
  · simp only [Act.put, List.setIfInBounds_toArray, List.set_cons_zero, List.set_cons_succ, i64_w, i32_w]
    rfl
  refine last_ (i := 10) (N := none) #[true, true, true, true, true, true, true, true, true, true, true] rfl rfl (by kernel_rfl) (by decide) (fun K hK => ?_)
  have c0 := blk_cell hbs 2
  simp only [List.getElem?_toArray, List.getElem?_cons_zero, List.getElem?_cons_succ] at c0
  refine skip_ (w1 := ?_) (by rfl) rfl ?_ ?_
  rotate_left
  · go_simp
    rfl
  refine hK.out _ _ ?_
  clear hK K
  refine done_ (by kernel_rfl) ?_
  clear hHeld c0
  have hr2 : RowF ktI (W1.setCell ⟨gs, 2, none⟩ (.pointer none)).drew L (upd (nwAt L) (i + 1) (nwAt L i)) (olAt L) := by have := hr1.set2 hu (p := i + 1) hsl (nwAt L i); rw [hnw.out] at this ⊢; rw [hgs.out]; exact this.drewN 1
  have hm2 : MemF ktI (W1.setCell ⟨gs, 2, none⟩ (.pointer none)).drew gm gb most (olAt L i) (lastG L) h m g := (hm1.far (by rw [hgs.out]; exact (hne (i + 1) hsl).symm) _).drewN 1
  have hc2 : Chg w (W1.setCell ⟨gs, 2, none⟩ (.pointer none)).drew (fun q => q = gm ∨ ∃ e ∈ L, e.g = q) := (hc1.set_ (.inr ⟨L[i + 1], List.getElem_mem _, hgs.out.symm⟩) _).drewN 1
  obtain ⟨W2, hW2⟩ : ∃ W2, W2 = (W1.setCell ⟨gs, 2, none⟩ (.pointer none)).drew := ⟨_, rfl⟩
  rw [← hW2] at hr2 hm2 hc2 ⊢
  clear hW2 hr1 hm1 hc1 hbs q2a q3a
  have hf2 : World.frozen? W2 ⟨ge, 2, none⟩ = false := by rw [hge.out]; exact blk_frozen (hr2 i hi) 2
  have ce2 := blk_cell (hr2 i hi) 2
  rw [← hge.out] at ce2
  simp only [List.getElem?_toArray, List.getElem?_cons_zero, List.getElem?_cons_succ] at ce2
  have hr3 : RowF ktI (World.setCell W2 ⟨ge, 2, none⟩ (.pointer none)) L (upd (upd (nwAt L) (i + 1) (nwAt L i)) i none) (olAt L) := by rw [hge.out]; exact hr2.set2 hu hi none
  have hm3 : MemF ktI (World.setCell W2 ⟨ge, 2, none⟩ (.pointer none)) gm gb most (olAt L i) (lastG L) h m g := hm2.far (by rw [hge.out]; exact (hne i hi).symm) _
  have hc3 : Chg w (World.setCell W2 ⟨ge, 2, none⟩ (.pointer none)) (fun q => q = gm ∨ ∃ e ∈ L, e.g = q) := hc2.set_ (.inr ⟨L[i], List.getElem_mem _, hge.out.symm⟩) _
  have hf3 : World.frozen? (World.setCell W2 ⟨ge, 2, none⟩ (.pointer none)) ⟨ge, 3, none⟩ = false := by have := blk_frozen (hr3 i hi) 3; rwa [← hge.out] at this
  have ce3 := blk_cell (hr3 i hi) 3
  rw [← hge.out] at ce3
  simp only [List.getElem?_toArray, List.getElem?_cons_zero, List.getElem?_cons_succ] at ce3
  have hr4 : RowF ktI (World.setCell (World.setCell W2 ⟨ge, 2, none⟩ (.pointer none)) ⟨ge, 3, none⟩ (.pointer none)) L (upd (upd (nwAt L) (i + 1) (nwAt L i)) i none) (upd (olAt L) i none) := by have := hr3.set3 hu hi none; rwa [← hge.out] at this
  have hm4 : MemF ktI (World.setCell (World.setCell W2 ⟨ge, 2, none⟩ (.pointer none)) ⟨ge, 3, none⟩ (.pointer none)) gm gb most (olAt L i) (lastG L) h m g := hm3.far (by rw [hge.out]; exact (hne i hi).symm) _
  have hc4 : Chg w (World.setCell (World.setCell W2 ⟨ge, 2, none⟩ (.pointer none)) ⟨ge, 3, none⟩ (.pointer none)) (fun q => q = gm ∨ ∃ e ∈ L, e.g = q) := hc3.set_ (.inr ⟨L[i], List.getElem_mem _, hge.out.symm⟩) _
  replace hr4 := Lib.hid hr4
  replace hm4 := Lib.hid hm4
  replace hc4 := Lib.hid hc4
  clear hr hm hr2 hm2 hc2 hr3 hm3 hc3 
  go_wp2_with fail
  refine bodyPost_end (v := .tuple #[]) (by simp [results, Try.results29, go_sem]) rfl ⟨rfl, Chain.erase hi hu ?_ ?_, ?_, hc4.out⟩
  all_goals have hi02 := hi0.out
  · have h1 := hm4.out
    rw [if_pos hi02, if_neg (by omega)]; rw [show olAt L i = gAt L 1 from by rw [hi02]; rfl] at h1
    exact h1
  · refine hr4.out.cong (fun j hj => ?_) (fun j hj => ?_)
    · unfold upd
      try dsimp only
      repeat' split
      all_goals first | rfl | omega | (exfalso; omega)
    · unfold upd
      try dsimp only
      repeat' split
      all_goals first | rfl | omega | (exfalso; omega)
  · have h1 := hr4.out i hi
    rw [← hge.out] at h1
    simpa [upd, ptr] using h1
set_option maxHeartbeats 2000000 in
theorem cut_I_tf (w : World) (gm gb : Nat) (most h m g : Int) (L : List (Ent Int)) (i : Nat) (hi : i < L.length) (hr : RowF ktI w L (nwAt L) (olAt L)) (hm : MemF ktI w gm gb most (gAt L 0) (lastG L) h m g) (hu : GUniq L) (hne : ∀ j, (hj : j < L.length) → L[j].g ≠ gm) (ge : Nat) (hge : ge = L[i].g) (hsl : ¬ i + 1 < L.length) (p : Nat) (hip : p + 1 = i) (gp : Nat) (hpl : p < L.length) (hgp : gp = L[p].g) (hnw : nwAt L i = some gp) (hol : olAt L i = none) :
    Calls Try.prog 29 #[.pointer (some ⟨gm, 0, none⟩), .pointer (some ⟨ge, 0, none⟩)] w fun e w' => e = .returned (.tuple #[]) ∧ Chain ktI w' gm gb most h m g (L.eraseIdx i) ∧ w'.heap[ge]? = some (.cells #[ktI.val L[i].k, .int .i64 L[i].v, .pointer none, .pointer none] ktI.tE (0, 0)) ∧ Chg w w' (fun q => q = gm ∨ ∃ e ∈ L, e.g = q) := by
  have hri := hr i hi
  replace hge := Lib.hid hge
  replace hnw := Lib.hid hnw
  replace hol := Lib.hid hol
  replace hgp := Lib.hid hgp
  replace hip := Lib.hid hip
  have q2 : w.cell? ⟨ge, 2, none⟩ = some (.pointer (some ⟨gp, 0, none⟩)) := by have := blk_cell (hr i hi) 2; rw [hnw.out] at this; rw [hge.out]; exact this
  have q3 : w.cell? ⟨ge, 3, none⟩ = some (.pointer none) := by have := blk_cell (hr i hi) 3; rw [hol.out] at this; rw [hge.out]; exact this
  go_enter Try.func29, Try.ntmps29
  have hfz := blk_frozen (hr p (by omega)) 3
  rw [← hgp.out] at hfz
  have hbp := hr p (by omega)
  rw [← hgp.out] at hbp
  go_wp2_with fail
  refine start_ (n := 11) (S := fun w' => w'.cell? ⟨ge, 2, none⟩ = some (.pointer (some ⟨gp, 0, none⟩)) ∧ w'.cell? ⟨ge, 3, none⟩ = some (.pointer none)) (ds := [10]) #[false, false, false, false, false, false, false, false, false, false, false] (by kernel_rfl) rfl rfl ⟨q2, q3⟩ (fun hHeld => ?_)
  refine pure_ (i := 0) (N := some 16) (v := ?_) (a' := ?_) #[true, false, false, false, false, false, false, false, false, false, false] rfl rfl (by kernel_rfl) (fun _ _ _ h => h) (Or.inl ⟨by rfl, ?_⟩) ?_ ?_
  rotate_left
  · intro w'
    go_simp
    with_reducible rfl
  rotate_left
  · simp only [Act.put, List.setIfInBounds_toArray, List.set_cons_zero, List.set_cons_succ, i64_w, i32_w]
    rfl
  refine pure_ (i := 1) (N := some 17) (v := ?_) (a' := ?_) #[true, true, false, false, false, false, false, false, false, false, false] rfl rfl (by kernel_rfl) (fun _ _ _ h => h) (Or.inl ⟨by rfl, ?_⟩) ?_ ?_
  rotate_left
  · intro w'
    go_simp
    with_reducible rfl
  rotate_left
  · simp only [Act.put, List.setIfInBounds_toArray, List.set_cons_zero, List.set_cons_succ, i64_w, i32_w]
    rfl
  refine pure_ (i := 2) (N := some 18) (v := ?_) (a' := ?_) #[true, true, true, false, false, false, false, false, false, false, false] rfl rfl (by kernel_rfl) (fun _ _ _ h => h) (Or.inl ⟨by rfl, ?_⟩) ?_ ?_
  rotate_left
  · intro w'
    go_simp
    with_reducible rfl
  rotate_left
  · simp only [Act.put, List.setIfInBounds_toArray, List.set_cons_zero, List.set_cons_succ, i64_w, i32_w]
    rfl
  refine pure_ (i := 4) (N := some 20) (v := ?_) (a' := ?_) #[true, true, true, false, true, false, false, false, false, false, false] rfl rfl (by kernel_rfl) (fun _ _ _ h => h) (Or.inl ⟨by rfl, ?_⟩) ?_ ?_
  rotate_left
  · intro w'
    go_simp
    with_reducible rfl
  rotate_left
  · simp only [Act.put, List.setIfInBounds_toArray, List.set_cons_zero, List.set_cons_succ, i64_w, i32_w]
    rfl
  refine pure_ (i := 5) (N := some 21) (v := ?_) (a' := ?_) #[true, true, true, false, true, true, false, false, false, false, false] rfl rfl (by kernel_rfl) (fun _ _ _ h => h) (Or.inl ⟨by rfl, ?_⟩) ?_ ?_
  rotate_left
  · intro w'
    go_simp
    with_reducible rfl
  rotate_left
  · simp only [Act.put, List.setIfInBounds_toArray, List.set_cons_zero, List.set_cons_succ, i64_w, i32_w]
    rfl
  refine pure_ (i := 6) (N := some 22) (v := ?_) (a' := ?_) #[true, true, true, false, true, true, true, false, false, false, false] rfl rfl (by kernel_rfl) (fun _ _ _ h => h) (Or.inl ⟨by rfl, ?_⟩) ?_ ?_
  rotate_left
  · intro w'
    go_simp
    with_reducible rfl
  rotate_left
  · simp only [Act.put, List.setIfInBounds_toArray, List.set_cons_zero, List.set_cons_succ, i64_w, i32_w]
    rfl
  refine take_ (i := 3) (N := some 19) (v := ?_) (a' := ?_) #[true, true, true, true, true, true, true, false, false, false, false] rfl rfl (by kernel_rfl) (fun _ _ _ h => h) (Or.inl ⟨by rfl, ?_⟩) hHeld ?_ ?_
  rotate_left
  · rintro w' ⟨s0, s1⟩
    go_simp
    with_reducible rfl
  rotate_left
  · simp only [Act.put, List.setIfInBounds_toArray, List.set_cons_zero, List.set_cons_succ, i64_w, i32_w]
    rfl
  refine take_ (i := 7) (N := some 23) (v := ?_) (a' := ?_) #[true, true, true, true, true, true, true, true, false, false, false] rfl rfl (by kernel_rfl) (fun _ _ _ h => h) (Or.inl ⟨by rfl, ?_⟩) hHeld ?_ ?_
  rotate_left
  · rintro w' ⟨s0, s1⟩
    go_simp
    with_reducible rfl
  rotate_left
  · simp only [Act.put, List.setIfInBounds_toArray, List.set_cons_zero, List.set_cons_succ, i64_w, i32_w]
    rfl
  refine pure_ (i := 8) (N := some 24) (v := ?_) (a' := ?_) #[true, true, true, true, true, true, true, true, true, false, false] rfl rfl (by kernel_rfl) (fun _ _ _ h => h) (Or.inl ⟨by rfl, ?_⟩) ?_ ?_
  rotate_left
  · intro w'
    go_simp
    with_reducible rfl
  rotate_left
  · simp only [Act.put, List.setIfInBounds_toArray, List.set_cons_zero, List.set_cons_succ, i64_w, i32_w]
    rfl
  refine pure_ (i := 9) (N := some 25) (v := ?_) (a' := ?_) #[true, true, true, true, true, true, true, true, true, true, false] rfl rfl (by kernel_rfl) (fun _ _ _ h => h) (Or.inl ⟨by rfl, ?_⟩) ?_ ?_
  rotate_left
  · intro w'
    go_simp
    with_reducible rfl
  rotate_left
  · simp only [Act.put, List.setIfInBounds_toArray, List.set_cons_zero, List.set_cons_succ, i64_w, i32_w]
    rfl
  refine last_ (i := 10) (N := none) #[true, true, true, true, true, true, true, true, true, true, true] rfl rfl (by kernel_rfl) (by decide) (fun K hK => ?_)
  have c0 := blk_cell hbp 3
  simp only [List.getElem?_toArray, List.getElem?_cons_zero, List.getElem?_cons_succ] at c0
  refine skip_ (w1 := ?_) (by rfl) rfl ?_ ?_
  rotate_left
  · go_simp
    rfl
  refine hK.out _ _ ?_
  clear hK K
  refine done_ (by kernel_rfl) ?_
  clear hHeld c0
  have hr1 : RowF ktI (w.setCell ⟨gp, 3, none⟩ (.pointer none)).drew L (nwAt L) (upd (olAt L) p (olAt L i)) := by have := hr.set3 hu (p := p) (by omega) (olAt L i); rw [hol.out] at this ⊢; rw [hgp.out]; exact this.drewN 1
  have hm1 : MemF ktI (w.setCell ⟨gp, 3, none⟩ (.pointer none)).drew gm gb most (gAt L 0) (lastG L) h m g := (hm.far (by rw [hgp.out]; exact (hne p (by omega)).symm) _).drewN 1
  have hc1 : Chg w (w.setCell ⟨gp, 3, none⟩ (.pointer none)).drew (fun q => q = gm ∨ ∃ e ∈ L, e.g = q) := ((Chg.refl w _).set_ (.inr ⟨L[p], List.getElem_mem _, hgp.out.symm⟩) _).drewN 1
  obtain ⟨W1, hW1⟩ : ∃ W1, W1 = (w.setCell ⟨gp, 3, none⟩ (.pointer none)).drew := ⟨_, rfl⟩
  rw [← hW1] at hr1 hm1 hc1 ⊢
  clear hW1 hbp
  have q2a : World.cell? W1 ⟨ge, 2, none⟩ = some (.pointer (some ⟨gp, 0, none⟩)) := by have := blk_cell (hr1 i hi) 2; rw [hnw.out] at this; rw [hge.out]; exact this
  have q3a : World.cell? W1 ⟨ge, 3, none⟩ = some (.pointer none) := by have := blk_cell (hr1 i hi) 3; rw [show (upd (olAt L) p (olAt L i)) i = olAt L i from by unfold upd; rw [if_neg (by have := hip.out; omega)], hol.out] at this; rw [hge.out]; exact this
  have hfz2 := blk_frozen hm1 3
  have cm2 := blk_cell hm1 3
  simp only [List.getElem?_toArray, List.getElem?_cons_zero, List.getElem?_cons_succ] at cm2
  have hr2 : RowF ktI (World.setCell W1 ⟨gm, 3, none⟩ (.pointer (some ⟨gp, 0, none⟩))) L (nwAt L) (upd (olAt L) p (olAt L i)) := hr1.far (fun j hj => hne j hj) _
  have hm2 : MemF ktI (World.setCell W1 ⟨gm, 3, none⟩ (.pointer (some ⟨gp, 0, none⟩))) gm gb most (gAt L 0) (nwAt L i) h m g := by have := hm1.set3 (nwAt L i); rw [hnw.out] at this ⊢; exact this
  have hc2 : Chg w (World.setCell W1 ⟨gm, 3, none⟩ (.pointer (some ⟨gp, 0, none⟩))) (fun q => q = gm ∨ ∃ e ∈ L, e.g = q) := hc1.set_ (.inl rfl) _
  have hf2 : World.frozen? (World.setCell W1 ⟨gm, 3, none⟩ (.pointer (some ⟨gp, 0, none⟩))) ⟨ge, 2, none⟩ = false := by rw [hge.out]; exact blk_frozen (hr2 i hi) 2
  have ce2 := blk_cell (hr2 i hi) 2
  rw [← hge.out] at ce2
  simp only [List.getElem?_toArray, List.getElem?_cons_zero, List.getElem?_cons_succ] at ce2
  have hr3 : RowF ktI (World.setCell (World.setCell W1 ⟨gm, 3, none⟩ (.pointer (some ⟨gp, 0, none⟩))) ⟨ge, 2, none⟩ (.pointer none)) L (upd (nwAt L) i none) (upd (olAt L) p (olAt L i)) := by rw [hge.out]; exact hr2.set2 hu hi none
  have hm3 : MemF ktI (World.setCell (World.setCell W1 ⟨gm, 3, none⟩ (.pointer (some ⟨gp, 0, none⟩))) ⟨ge, 2, none⟩ (.pointer none)) gm gb most (gAt L 0) (nwAt L i) h m g := hm2.far (by rw [hge.out]; exact (hne i hi).symm) _
  have hc3 : Chg w (World.setCell (World.setCell W1 ⟨gm, 3, none⟩ (.pointer (some ⟨gp, 0, none⟩))) ⟨ge, 2, none⟩ (.pointer none)) (fun q => q = gm ∨ ∃ e ∈ L, e.g = q) := hc2.set_ (.inr ⟨L[i], List.getElem_mem _, hge.out.symm⟩) _
  have hf3 : World.frozen? (World.setCell (World.setCell W1 ⟨gm, 3, none⟩ (.pointer (some ⟨gp, 0, none⟩))) ⟨ge, 2, none⟩ (.pointer none)) ⟨ge, 3, none⟩ = false := by have := blk_frozen (hr3 i hi) 3; rwa [← hge.out] at this
  have ce3 := blk_cell (hr3 i hi) 3
  rw [← hge.out] at ce3
  simp only [List.getElem?_toArray, List.getElem?_cons_zero, List.getElem?_cons_succ] at ce3
  have hr4 : RowF ktI (World.setCell (World.setCell (World.setCell W1 ⟨gm, 3, none⟩ (.pointer (some ⟨gp, 0, none⟩))) ⟨ge, 2, none⟩ (.pointer none)) ⟨ge, 3, none⟩ (.pointer none)) L (upd (nwAt L) i none) (upd (upd (olAt L) p (olAt L i)) i none) := by have := hr3.set3 hu hi none; rwa [← hge.out] at this
  have hm4 : MemF ktI (World.setCell (World.setCell (World.setCell W1 ⟨gm, 3, none⟩ (.pointer (some ⟨gp, 0, none⟩))) ⟨ge, 2, none⟩ (.pointer none)) ⟨ge, 3, none⟩ (.pointer none)) gm gb most (gAt L 0) (nwAt L i) h m g := hm3.far (by rw [hge.out]; exact (hne i hi).symm) _
  have hc4 : Chg w (World.setCell (World.setCell (World.setCell W1 ⟨gm, 3, none⟩ (.pointer (some ⟨gp, 0, none⟩))) ⟨ge, 2, none⟩ (.pointer none)) ⟨ge, 3, none⟩ (.pointer none)) (fun q => q = gm ∨ ∃ e ∈ L, e.g = q) := hc3.set_ (.inr ⟨L[i], List.getElem_mem _, hge.out.symm⟩) _
  replace hr4 := Lib.hid hr4
  replace hm4 := Lib.hid hm4
  replace hc4 := Lib.hid hc4
  clear hr hm hr2 hm2 hc2 hr3 hm3 hc3 hr1 hm1 hc1
  go_wp2_with fail
  refine bodyPost_end (v := .tuple #[]) (by simp [results, Try.results29, go_sem]) rfl ⟨rfl, Chain.erase hi hu ?_ ?_, ?_, hc4.out⟩
  all_goals have hip2 := hip.out
  · have h1 := hm4.out
    rw [if_neg (by omega), if_pos (by omega)]
    exact h1
  · refine hr4.out.cong (fun j hj => ?_) (fun j hj => ?_)
    · unfold upd
      try dsimp only
      repeat' split
      all_goals first | rfl | omega | (exfalso; omega)
    · unfold upd
      try dsimp only
      repeat' split
      all_goals first | rfl | omega | (exfalso; omega)
  · have h1 := hr4.out i hi
    rw [← hge.out] at h1
    simpa [upd, ptr] using h1
set_option maxHeartbeats 2000000 in
theorem cut_I_tt (w : World) (gm gb : Nat) (most h m g : Int) (L : List (Ent Int)) (i : Nat) (hi : i < L.length) (hr : RowF ktI w L (nwAt L) (olAt L)) (hm : MemF ktI w gm gb most (gAt L 0) (lastG L) h m g) (hu : GUniq L) (hne : ∀ j, (hj : j < L.length) → L[j].g ≠ gm) (ge : Nat) (hge : ge = L[i].g) (gs : Nat) (hsl : i + 1 < L.length) (hgs : gs = L[i + 1].g) (p : Nat) (hip : p + 1 = i) (gp : Nat) (hpl : p < L.length) (hgp : gp = L[p].g) (hnw : nwAt L i = some gp) (hol : olAt L i = some gs) :
    Calls Try.prog 29 #[.pointer (some ⟨gm, 0, none⟩), .pointer (some ⟨ge, 0, none⟩)] w fun e w' => e = .returned (.tuple #[]) ∧ Chain ktI w' gm gb most h m g (L.eraseIdx i) ∧ w'.heap[ge]? = some (.cells #[ktI.val L[i].k, .int .i64 L[i].v, .pointer none, .pointer none] ktI.tE (0, 0)) ∧ Chg w w' (fun q => q = gm ∨ ∃ e ∈ L, e.g = q) := by
  have hri := hr i hi
  replace hge := Lib.hid hge
  replace hnw := Lib.hid hnw
  replace hol := Lib.hid hol
  replace hgs := Lib.hid hgs
  replace hgp := Lib.hid hgp
  replace hip := Lib.hid hip
  have q2 : w.cell? ⟨ge, 2, none⟩ = some (.pointer (some ⟨gp, 0, none⟩)) := by have := blk_cell (hr i hi) 2; rw [hnw.out] at this; rw [hge.out]; exact this
  have q3 : w.cell? ⟨ge, 3, none⟩ = some (.pointer (some ⟨gs, 0, none⟩)) := by have := blk_cell (hr i hi) 3; rw [hol.out] at this; rw [hge.out]; exact this
  go_enter Try.func29, Try.ntmps29
  have hfz := blk_frozen (hr p (by omega)) 3
  rw [← hgp.out] at hfz
  have hbp := hr p (by omega)
  rw [← hgp.out] at hbp
  go_wp2_with fail
  refine start_ (n := 11) (S := fun w' => w'.cell? ⟨ge, 2, none⟩ = some (.pointer (some ⟨gp, 0, none⟩)) ∧ w'.cell? ⟨ge, 3, none⟩ = some (.pointer (some ⟨gs, 0, none⟩))) (ds := [10]) #[false, false, false, false, false, false, false, false, false, false, false] (by kernel_rfl) rfl rfl ⟨q2, q3⟩ (fun hHeld => ?_)
  refine pure_ (i := 0) (N := some 16) (v := ?_) (a' := ?_) #[true, false, false, false, false, false, false, false, false, false, false] rfl rfl (by kernel_rfl) (fun _ _ _ h => h) (Or.inl ⟨by rfl, ?_⟩) ?_ ?_
  rotate_left
  · intro w'
    go_simp
    with_reducible rfl
  rotate_left
  · simp only [Act.put, List.setIfInBounds_toArray, List.set_cons_zero, List.set_cons_succ, i64_w, i32_w]
    rfl
  refine pure_ (i := 1) (N := some 17) (v := ?_) (a' := ?_) #[true, true, false, false, false, false, false, false, false, false, false] rfl rfl (by kernel_rfl) (fun _ _ _ h => h) (Or.inl ⟨by rfl, ?_⟩) ?_ ?_
  rotate_left
  · intro w'
    go_simp
    with_reducible rfl
  rotate_left
  · simp only [Act.put, List.setIfInBounds_toArray, List.set_cons_zero, List.set_cons_succ, i64_w, i32_w]
    rfl
  refine pure_ (i := 2) (N := some 18) (v := ?_) (a' := ?_) #[true, true, true, false, false, false, false, false, false, false, false] rfl rfl (by kernel_rfl) (fun _ _ _ h => h) (Or.inl ⟨by rfl, ?_⟩) ?_ ?_
  rotate_left
  · intro w'
    go_simp
    with_reducible rfl
  rotate_left
  · simp only [Act.put, List.setIfInBounds_toArray, List.set_cons_zero, List.set_cons_succ, i64_w, i32_w]
    rfl
  refine pure_ (i := 4) (N := some 20) (v := ?_) (a' := ?_) #[true, true, true, false, true, false, false, false, false, false, false] rfl rfl (by kernel_rfl) (fun _ _ _ h => h) (Or.inl ⟨by rfl, ?_⟩) ?_ ?_
  rotate_left
  · intro w'
    go_simp
    with_reducible rfl
  rotate_left
  · simp only [Act.put, List.setIfInBounds_toArray, List.set_cons_zero, List.set_cons_succ, i64_w, i32_w]
    rfl
  refine pure_ (i := 5) (N := some 21) (v := ?_) (a' := ?_) #[true, true, true, false, true, true, false, false, false, false, false] rfl rfl (by kernel_rfl) (fun _ _ _ h => h) (Or.inl ⟨by rfl, ?_⟩) ?_ ?_
  rotate_left
  · intro w'
    go_simp
    with_reducible rfl
  rotate_left
  · simp only [Act.put, List.setIfInBounds_toArray, List.set_cons_zero, List.set_cons_succ, i64_w, i32_w]
    rfl
  refine pure_ (i := 6) (N := some 22) (v := ?_) (a' := ?_) #[true, true, true, false, true, true, true, false, false, false, false] rfl rfl (by kernel_rfl) (fun _ _ _ h => h) (Or.inl ⟨by rfl, ?_⟩) ?_ ?_
  rotate_left
  · intro w'
    go_simp
    with_reducible rfl
  rotate_left
  · simp only [Act.put, List.setIfInBounds_toArray, List.set_cons_zero, List.set_cons_succ, i64_w, i32_w]
    rfl
  refine take_ (i := 3) (N := some 19) (v := ?_) (a' := ?_) #[true, true, true, true, true, true, true, false, false, false, false] rfl rfl (by kernel_rfl) (fun _ _ _ h => h) (Or.inl ⟨by rfl, ?_⟩) hHeld ?_ ?_
  rotate_left
  · rintro w' ⟨s0, s1⟩
    go_simp
    with_reducible rfl
  rotate_left
  · simp only [Act.put, List.setIfInBounds_toArray, List.set_cons_zero, List.set_cons_succ, i64_w, i32_w]
    rfl
  refine take_ (i := 7) (N := some 23) (v := ?_) (a' := ?_) #[true, true, true, true, true, true, true, true, false, false, false] rfl rfl (by kernel_rfl) (fun _ _ _ h => h) (Or.inl ⟨by rfl, ?_⟩) hHeld ?_ ?_
  rotate_left
  · rintro w' ⟨s0, s1⟩
    go_simp
    with_reducible rfl
  rotate_left
  · simp only [Act.put, List.setIfInBounds_toArray, List.set_cons_zero, List.set_cons_succ, i64_w, i32_w]
    rfl
  refine pure_ (i := 8) (N := some 24) (v := ?_) (a' := ?_) #[true, true, true, true, true, true, true, true, true, false, false] rfl rfl (by kernel_rfl) (fun _ _ _ h => h) (Or.inl ⟨by rfl, ?_⟩) ?_ ?_
  rotate_left
  · intro w'
    go_simp
    with_reducible rfl
  rotate_left
  · simp only [Act.put, List.setIfInBounds_toArray, List.set_cons_zero, List.set_cons_succ, i64_w, i32_w]
    rfl
  refine pure_ (i := 9) (N := some 25) (v := ?_) (a' := ?_) #[true, true, true, true, true, true, true, true, true, true, false] rfl rfl (by kernel_rfl) (fun _ _ _ h => h) (Or.inl ⟨by rfl, ?_⟩) ?_ ?_
  rotate_left
  · intro w'
    go_simp
    with_reducible rfl
  rotate_left
  · simp only [Act.put, List.setIfInBounds_toArray, List.set_cons_zero, List.set_cons_succ, i64_w, i32_w]
    rfl
  refine last_ (i := 10) (N := none) #[true, true, true, true, true, true, true, true, true, true, true] rfl rfl (by kernel_rfl) (by decide) (fun K hK => ?_)
  have c0 := blk_cell hbp 3
  simp only [List.getElem?_toArray, List.getElem?_cons_zero, List.getElem?_cons_succ] at c0
  refine skip_ (w1 := ?_) (by rfl) rfl ?_ ?_
  rotate_left
  · go_simp
    rfl
  refine hK.out _ _ ?_
  clear hK K
  refine done_ (by kernel_rfl) ?_
  clear hHeld c0
  have hr1 : RowF ktI (w.setCell ⟨gp, 3, none⟩ (.pointer (some ⟨gs, 0, none⟩))).drew L (nwAt L) (upd (olAt L) p (olAt L i)) := by have := hr.set3 hu (p := p) (by omega) (olAt L i); rw [hol.out] at this ⊢; rw [hgp.out]; exact this.drewN 1
  have hm1 : MemF ktI (w.setCell ⟨gp, 3, none⟩ (.pointer (some ⟨gs, 0, none⟩))).drew gm gb most (gAt L 0) (lastG L) h m g := (hm.far (by rw [hgp.out]; exact (hne p (by omega)).symm) _).drewN 1
  have hc1 : Chg w (w.setCell ⟨gp, 3, none⟩ (.pointer (some ⟨gs, 0, none⟩))).drew (fun q => q = gm ∨ ∃ e ∈ L, e.g = q) := ((Chg.refl w _).set_ (.inr ⟨L[p], List.getElem_mem _, hgp.out.symm⟩) _).drewN 1
  obtain ⟨W1, hW1⟩ : ∃ W1, W1 = (w.setCell ⟨gp, 3, none⟩ (.pointer (some ⟨gs, 0, none⟩))).drew := ⟨_, rfl⟩
  rw [← hW1] at hr1 hm1 hc1 ⊢
  clear hW1 hbp
  have q2a : World.cell? W1 ⟨ge, 2, none⟩ = some (.pointer (some ⟨gp, 0, none⟩)) := by have := blk_cell (hr1 i hi) 2; rw [hnw.out] at this; rw [hge.out]; exact this
  have q3a : World.cell? W1 ⟨ge, 3, none⟩ = some (.pointer (some ⟨gs, 0, none⟩)) := by have := blk_cell (hr1 i hi) 3; rw [show (upd (olAt L) p (olAt L i)) i = olAt L i from by unfold upd; rw [if_neg (by have := hip.out; omega)], hol.out] at this; rw [hge.out]; exact this
  go_wp2_with fail
  replace q2 := q2a
  replace q3 := q3a
  have hfz := blk_frozen (hr1 (i + 1) hsl) 2
  rw [← hgs.out] at hfz
  have hbs := hr1 (i + 1) hsl
  rw [← hgs.out] at hbs
  refine start_ (n := 11) (S := fun w' => w'.cell? ⟨ge, 2, none⟩ = some (.pointer (some ⟨gp, 0, none⟩)) ∧ w'.cell? ⟨ge, 3, none⟩ = some (.pointer (some ⟨gs, 0, none⟩))) (ds := [10]) #[false, false, false, false, false, false, false, false, false, false, false] (by kernel_rfl) rfl rfl ⟨q2, q3⟩ (fun hHeld => ?_)
  refine pure_ (i := 0) (N := some 38) (v := ?_) (a' := ?_) #[true, false, false, false, false, false, false, false, false, false, false] rfl rfl (by kernel_rfl) (fun _ _ _ h => h) (Or.inl ⟨by rfl, ?_⟩) ?_ ?_
  rotate_left
  · intro w'
    go_simp
    with_reducible rfl
  rotate_left
  · simp only [Act.put, List.setIfInBounds_toArray, List.set_cons_zero, List.set_cons_succ, i64_w, i32_w]
    rfl
  refine pure_ (i := 1) (N := some 39) (v := ?_) (a' := ?_) #[true, true, false, false, false, false, false, false, false, false, false] rfl rfl (by kernel_rfl) (fun _ _ _ h => h) (Or.inl ⟨by rfl, ?_⟩) ?_ ?_
  rotate_left
  · intro w'
    go_simp
    with_reducible rfl
  rotate_left
  · simp only [Act.put, List.setIfInBounds_toArray, List.set_cons_zero, List.set_cons_succ, i64_w, i32_w]
    rfl
  refine pure_ (i := 2) (N := some 40) (v := ?_) (a' := ?_) #[true, true, true, false, false, false, false, false, false, false, false] rfl rfl (by kernel_rfl) (fun _ _ _ h => h) (Or.inl ⟨by rfl, ?_⟩) ?_ ?_
  rotate_left
  · intro w'
    go_simp
    with_reducible rfl
  rotate_left
  · simp only [Act.put, List.setIfInBounds_toArray, List.set_cons_zero, List.set_cons_succ, i64_w, i32_w]
    rfl
  refine pure_ (i := 4) (N := some 42) (v := ?_) (a' := ?_) #[true, true, true, false, true, false, false, false, false, false, false] rfl rfl (by kernel_rfl) (fun _ _ _ h => h) (Or.inl ⟨by rfl, ?_⟩) ?_ ?_
  rotate_left
  · intro w'
    go_simp
    with_reducible rfl
  rotate_left
  · simp only [Act.put, List.setIfInBounds_toArray, List.set_cons_zero, List.set_cons_succ, i64_w, i32_w]
    rfl
  refine pure_ (i := 5) (N := some 43) (v := ?_) (a' := ?_) #[true, true, true, false, true, true, false, false, false, false, false] rfl rfl (by kernel_rfl) (fun _ _ _ h => h) (Or.inl ⟨by rfl, ?_⟩) ?_ ?_
  rotate_left
  · intro w'
    go_simp
    with_reducible rfl
  rotate_left
  · simp only [Act.put, List.setIfInBounds_toArray, List.set_cons_zero, List.set_cons_succ, i64_w, i32_w]
    rfl
  refine pure_ (i := 6) (N := some 44) (v := ?_) (a' := ?_) #[true, true, true, false, true, true, true, false, false, false, false] rfl rfl (by kernel_rfl) (fun _ _ _ h => h) (Or.inl ⟨by rfl, ?_⟩) ?_ ?_
  rotate_left
  · intro w'
    go_simp
    with_reducible rfl
  rotate_left
  · simp only [Act.put, List.setIfInBounds_toArray, List.set_cons_zero, List.set_cons_succ, i64_w, i32_w]
    rfl
  refine take_ (i := 3) (N := some 41) (v := ?_) (a' := ?_) #[true, true, true, true, true, true, true, false, false, false, false] rfl rfl (by kernel_rfl) (fun _ _ _ h => h) (Or.inl ⟨by rfl, ?_⟩) hHeld ?_ ?_
  rotate_left
  · rintro w' ⟨s0, s1⟩
    go_simp
    with_reducible rfl
  rotate_left
  · simp only [Act.put, List.setIfInBounds_toArray, List.set_cons_zero, List.set_cons_succ, i64_w, i32_w]
    rfl
  refine take_ (i := 7) (N := some 45) (v := ?_) (a' := ?_) #[true, true, true, true, true, true, true, true, false, false, false] rfl rfl (by kernel_rfl) (fun _ _ _ h => h) (Or.inl ⟨by rfl, ?_⟩) hHeld ?_ ?_
  rotate_left
  · rintro w' ⟨s0, s1⟩
    go_simp
    with_reducible rfl
  rotate_left
  · simp only [Act.put, List.setIfInBounds_toArray, List.set_cons_zero, List.set_cons_succ, i64_w, i32_w]
    rfl
  refine pure_ (i := 8) (N := some 46) (v := ?_) (a' := ?_) #[true, true, true, true, true, true, true, true, true, false, false] rfl rfl (by kernel_rfl) (fun _ _ _ h => h) (Or.inl ⟨by rfl, ?_⟩) ?_ ?_
  rotate_left
  · intro w'
    go_simp
    with_reducible rfl
  rotate_left
  · simp only [Act.put, List.setIfInBounds_toArray, List.set_cons_zero, List.set_cons_succ, i64_w, i32_w]
    rfl
  refine pure_ (i := 9) (N := some 47) (v := ?_) (a' := ?_) #[true, true, true, true, true, true, true, true, true, true, false] rfl rfl (by kernel_rfl) (fun _ _ _ h => h) (Or.inl ⟨by rfl, ?_⟩) ?_ ?_
  rotate_left
  · intro w'
    go_simp
    with_reducible rfl
  rotate_left
  · simp only [Act.put, List.setIfInBounds_toArray, List.set_cons_zero, List.set_cons_succ, i64_w, i32_w]
    rfl
  refine last_ (i := 10) (N := none) #[true, true, true, true, true, true, true, true, true, true, true] rfl rfl (by kernel_rfl) (by decide) (fun K hK => ?_)
  have c0 := blk_cell hbs 2
  simp only [List.getElem?_toArray, List.getElem?_cons_zero, List.getElem?_cons_succ] at c0
  refine skip_ (w1 := ?_) (by rfl) rfl ?_ ?_
  rotate_left
  · go_simp
    rfl
  refine hK.out _ _ ?_
  clear hK K
  refine done_ (by kernel_rfl) ?_
  clear hHeld c0
  have hr2 : RowF ktI (W1.setCell ⟨gs, 2, none⟩ (.pointer (some ⟨gp, 0, none⟩))).drew L (upd (nwAt L) (i + 1) (nwAt L i)) (upd (olAt L) p (olAt L i)) := by have := hr1.set2 hu (p := i + 1) hsl (nwAt L i); rw [hnw.out] at this ⊢; rw [hgs.out]; exact this.drewN 1
  have hm2 : MemF ktI (W1.setCell ⟨gs, 2, none⟩ (.pointer (some ⟨gp, 0, none⟩))).drew gm gb most (gAt L 0) (lastG L) h m g := (hm1.far (by rw [hgs.out]; exact (hne (i + 1) hsl).symm) _).drewN 1
  have hc2 : Chg w (W1.setCell ⟨gs, 2, none⟩ (.pointer (some ⟨gp, 0, none⟩))).drew (fun q => q = gm ∨ ∃ e ∈ L, e.g = q) := (hc1.set_ (.inr ⟨L[i + 1], List.getElem_mem _, hgs.out.symm⟩) _).drewN 1
  obtain ⟨W2, hW2⟩ : ∃ W2, W2 = (W1.setCell ⟨gs, 2, none⟩ (.pointer (some ⟨gp, 0, none⟩))).drew := ⟨_, rfl⟩
  rw [← hW2] at hr2 hm2 hc2 ⊢
  clear hW2 hr1 hm1 hc1 hbs q2a q3a
  have hf2 : World.frozen? W2 ⟨ge, 2, none⟩ = false := by rw [hge.out]; exact blk_frozen (hr2 i hi) 2
  have ce2 := blk_cell (hr2 i hi) 2
  rw [← hge.out] at ce2
  simp only [List.getElem?_toArray, List.getElem?_cons_zero, List.getElem?_cons_succ] at ce2
  have hr3 : RowF ktI (World.setCell W2 ⟨ge, 2, none⟩ (.pointer none)) L (upd (upd (nwAt L) (i + 1) (nwAt L i)) i none) (upd (olAt L) p (olAt L i)) := by rw [hge.out]; exact hr2.set2 hu hi none
  have hm3 : MemF ktI (World.setCell W2 ⟨ge, 2, none⟩ (.pointer none)) gm gb most (gAt L 0) (lastG L) h m g := hm2.far (by rw [hge.out]; exact (hne i hi).symm) _
  have hc3 : Chg w (World.setCell W2 ⟨ge, 2, none⟩ (.pointer none)) (fun q => q = gm ∨ ∃ e ∈ L, e.g = q) := hc2.set_ (.inr ⟨L[i], List.getElem_mem _, hge.out.symm⟩) _
  have hf3 : World.frozen? (World.setCell W2 ⟨ge, 2, none⟩ (.pointer none)) ⟨ge, 3, none⟩ = false := by have := blk_frozen (hr3 i hi) 3; rwa [← hge.out] at this
  have ce3 := blk_cell (hr3 i hi) 3
  rw [← hge.out] at ce3
  simp only [List.getElem?_toArray, List.getElem?_cons_zero, List.getElem?_cons_succ] at ce3
  have hr4 : RowF ktI (World.setCell (World.setCell W2 ⟨ge, 2, none⟩ (.pointer none)) ⟨ge, 3, none⟩ (.pointer none)) L (upd (upd (nwAt L) (i + 1) (nwAt L i)) i none) (upd (upd (olAt L) p (olAt L i)) i none) := by have := hr3.set3 hu hi none; rwa [← hge.out] at this
  have hm4 : MemF ktI (World.setCell (World.setCell W2 ⟨ge, 2, none⟩ (.pointer none)) ⟨ge, 3, none⟩ (.pointer none)) gm gb most (gAt L 0) (lastG L) h m g := hm3.far (by rw [hge.out]; exact (hne i hi).symm) _
  have hc4 : Chg w (World.setCell (World.setCell W2 ⟨ge, 2, none⟩ (.pointer none)) ⟨ge, 3, none⟩ (.pointer none)) (fun q => q = gm ∨ ∃ e ∈ L, e.g = q) := hc3.set_ (.inr ⟨L[i], List.getElem_mem _, hge.out.symm⟩) _
  replace hr4 := Lib.hid hr4
  replace hm4 := Lib.hid hm4
  replace hc4 := Lib.hid hc4
  clear hr hm hr2 hm2 hc2 hr3 hm3 hc3 
  go_wp2_with fail
  refine bodyPost_end (v := .tuple #[]) (by simp [results, Try.results29, go_sem]) rfl ⟨rfl, Chain.erase hi hu ?_ ?_, ?_, hc4.out⟩
  all_goals have hip2 := hip.out
  · have h1 := hm4.out
    rw [if_neg (by omega), if_neg (by omega)]
    exact h1
  · refine hr4.out.cong (fun j hj => ?_) (fun j hj => ?_)
    · unfold upd
      try dsimp only
      repeat' split
      all_goals first | rfl | omega | (exfalso; omega)
    · unfold upd
      try dsimp only
      repeat' split
      all_goals first | rfl | omega | (exfalso; omega)
  · have h1 := hr4.out i hi
    rw [← hge.out] at h1
    simpa [upd, ptr] using h1
set_option maxHeartbeats 4000000 in
theorem cut_I (w : World) (gm gb : Nat) (most h m g : Int) (L : List (Ent Int)) (i : Nat) (hi : i < L.length) (hC : Chain ktI w gm gb most h m g L) :
    Calls Try.prog 29 #[.pointer (some ⟨gm, 0, none⟩), .pointer (some ⟨L[i].g, 0, none⟩)] w fun e w' => e = .returned (.tuple #[]) ∧ Chain ktI w' gm gb most h m g (L.eraseIdx i) ∧ w'.heap[L[i].g]? = some (.cells #[ktI.val L[i].k, .int .i64 L[i].v, .pointer none, .pointer none] ktI.tE (0, 0)) ∧ Chg w w' (fun q => q = gm ∨ ∃ e ∈ L, e.g = q) := by
  have hr := hC.row
  have hm := hC.mem
  have hu := hC.gu
  have hne := hm.ne hr (by decide)
  clear hC
  obtain ⟨ge, hge⟩ : ∃ ge, ge = L[i].g := ⟨_, rfl⟩
  rw [← hge]
  obtain ⟨p, hp⟩ : ∃ p, p = i - 1 := ⟨_, rfl⟩
  by_cases hi0 : i = 0
  · have hnw : nwAt L i = none := by rw [hi0]; rfl
    by_cases hsl : i + 1 < L.length
    · have hol : olAt L i = some L[i + 1].g := gAt_lt hsl
      obtain ⟨gs, hgs⟩ : ∃ gs, gs = L[i + 1].g := ⟨_, rfl⟩
      rw [← hgs] at hol
      exact cut_I_ft w gm gb most h m g L i hi hr hm hu hne ge hge gs hsl hgs hi0 hnw hol
    · have hol : olAt L i = none := gAt_ge (by omega)
      exact cut_I_ff w gm gb most h m g L i hi hr hm hu hne ge hge hsl hi0 hnw hol
  · have hpl : p < L.length := by omega
    have hip : p + 1 = i := by omega
    have hnw : nwAt L i = some L[p].g := by rw [← hip]; exact gAt_lt hpl
    obtain ⟨gp, hgp⟩ : ∃ gp, gp = L[p].g := ⟨_, rfl⟩
    rw [← hgp] at hnw
    by_cases hsl : i + 1 < L.length
    · have hol : olAt L i = some L[i + 1].g := gAt_lt hsl
      obtain ⟨gs, hgs⟩ : ∃ gs, gs = L[i + 1].g := ⟨_, rfl⟩
      rw [← hgs] at hol
      exact cut_I_tt w gm gb most h m g L i hi hr hm hu hne ge hge gs hsl hgs p hip gp hpl hgp hnw hol
    · have hol : olAt L i = none := gAt_ge (by omega)
      exact cut_I_tf w gm gb most h m g L i hi hr hm hu hne ge hge hsl p hip gp hpl hgp hnw hol
end Go.Proofs.Ytecgbhiebaiokaa.G
