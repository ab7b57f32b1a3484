/- The contracts of gone. -/
import Derived.Test.YtecgbhiebaiokaaH7
namespace Go.Proofs.Ytecgbhiebaiokaa.G
open Go.RowKit Go.Proofs.YtecgbhiebaiokaaW.PrintWords Go.Proofs.YtecgbhiebaiokaaW.PrintLast Go.Proofs.YtecgbhiebaiokaaW.PrintMore
set_option linter.unusedSimpArgs false
set_option linter.unusedVariables false
section
variable {ops : Array Oper} {o : Oper} {a : Act} {Q : Exit → Act → World → Prop} {K : Act → World → Prop}
theorem step_del {W W1 : World} {E : Prop} {u v r : Value} (hgd : o.guard = none) (mm x : Operand) (t k : TypeId) (ho : o.op = .call { callee := .builtin .delete, args := #[mm, x], argTypes := #[t, k] })
    (hm : a.eval mm = u) (hx : a.eval x = v) (hr : (Builtin.delete_ #[t, k] o.type #[u, v]).run Try.prog W = .ok r W1) (h : K (a.put o.dst r) W1) :
    if Region.wanted o (yielded ops a.tmps) = true then Oper.wp Try.prog o a W K Q else E := by
  have hw : Region.wanted o (yielded ops a.tmps) = true := by simp [Region.wanted, hgd]
  rw [if_pos hw]
  unfold Oper.wp execOp
  simp only [ho, resolve, invoke, builtin, Sem.run_bind, Sem.run_pure, Result.andThen_ok, List.map_toArray, List.map_cons, List.map_nil, hm, hx, hr]
  exact h
end
section
variable {α : Type} [DecidableEq α]
theorem at_of {k : α} {L : List (Ent α)} (hu : Uniq L) {q : Nat} (hq : q < L.length) (hk : L[q].k = k) : at_ k L = q := by
  have hh : has k L = true := has_iff.2 ⟨L[q], List.getElem_mem hq, hk⟩
  have h1 := at_key hh
  have h2 := at_lt hh
  exact (List.getElem_inj (i := at_ k L) (j := q) (h₀ := by simpa using h2) (h₁ := by simpa using hq) hu).1 (by simp [h1, hk])
variable {T : KT α} {w w1 : World} {B gm gb : Nat} {most h m g : Int} {L : List (Ent α)}
theorem Memo.gone (hM : Memo T w B gm gb most h m g L) {q : Nat} (hq : q < L.length) {k : α} (hk : k = L[q].k) (hh : has k L = true) (hat : at_ k L = q) (hC : Chain T w1 gm gb most h m (g + 1) (L.eraseIdx q)) (hmp : MapL T w1 gb (cutK k L)) (hg : g + 1 ≤ 1152921504606846976) : Memo T w1 B gm gb most h m (g + 1) (L.eraseIdx q) := by
  have he : L.eraseIdx q = cutK k L := by rw [← hat]; exact erase_cut hM.uq hh
  have hl : (L.eraseIdx q).length ≤ L.length := by rw [List.length_eraseIdx, if_pos hq]; omega
  have := hM.g0
  have := hM.ln
  exact ⟨hC, by rw [he]; exact hmp, hM.bm, hM.bb, fun e he => hM.bg e (List.mem_of_mem_eraseIdx he), by rw [he]; exact hM.uq.cut, fun e he => hM.okk e (List.mem_of_mem_eraseIdx he), by omega, hM.m1, hM.m2, hM.h0, hM.h1, hM.i0, hM.i1, by omega, hg⟩
end
set_option maxHeartbeats 2000000 in
theorem gone_I (w : World) (B gm gb : Nat) (most h m g : Int) (L : List (Ent Int)) (q : Nat) (hq : q + 1 = L.length) (hM : Memo ktI w B gm gb most h m g L) (hg1 : g + 1 ≤ 1152921504606846976) :
    Calls Try.prog 31 #[.pointer (some ⟨gm, 0, none⟩)] w fun e w' => e = .returned (.int .i64 L[q].k) ∧ Memo ktI w' B gm gb most h m (g + 1) (L.eraseIdx q) ∧ Chg w w' (FM gm gb L) := by
  have hql : q < L.length := by omega
  obtain ⟨g0, hg0⟩ : ∃ g0, g0 = L[q].g := ⟨_, rfl⟩
  obtain ⟨k0, hk0⟩ : ∃ k0, k0 = L[q].k := ⟨_, rfl⟩
  have q3 : w.cell? ⟨gm, 3, none⟩ = some (.pointer (some ⟨g0, 0, none⟩)) := by
    have := blk_cell hM.ch.mem 3
    have e : lastG L = some g0 := by unfold lastG; rw [← hq, hg0]; exact gAt_lt hql
    rw [e] at this
    exact this
  have hcut := cut_I w gm gb most h m g L q hql hM.ch
  rw [← hg0] at hcut
  have hgg := hM.g0
  have HM := Lib.hid hM
  rw [← hk0]
  have hok := Lib.hid (hM.okk L[q] (List.getElem_mem hql))
  have hhas : Hid (has k0 L = true) := has_iff.2 ⟨L[q], List.getElem_mem hql, hk0.symm⟩
  have hat : Hid (at_ k0 L = q) := at_of hM.uq hql hk0.symm
  replace hg0 := Lib.hid hg0
  replace hk0 := Lib.hid hk0
  replace hq := Lib.hid hq
  clear hM
  go_enter Try.func31, Try.ntmps31
  go_wp2_with fail
  refine hcut.mono ?_
  clear hcut
  rintro e w1 ⟨rfl, hch, hbe, hc1⟩
  have q1 : w1.cell? ⟨gm, 1, none⟩ = some (.map (some gb)) := blk_cell hch.mem 1
  have qk : w1.cell? ⟨g0, 0, none⟩ = some (.int .i64 k0) := by have := blk_cell hbe 0; rw [← hk0.out] at this; exact this
  have hmp1 : MapL ktI w1 gb L := HM.out.mp.chg hc1 (fun hf => by
    rcases hf with h1 | ⟨x, hx, h1⟩
    · exact HM.out.mp.ne HM.out.ch.mem h1.symm
    · obtain ⟨j, hj, rfl⟩ := List.getElem_of_mem hx
      exact HM.out.mp.ne (HM.out.ch.row j hj) h1)
  obtain ⟨w2, hrun, hmp2, hc2⟩ := (hmp1.drewN 1).drop klI (k := k0) (by rw [hk0.out]; exact hok.out) HM.out.uq hhas.out 0
  replace hc2 : Chg w1 w2 (fun z => z = gb) := ⟨hc2.os, hc2.tape, hc2.output, hc2.size, hc2.block⟩
  have hgb1 := hmp1
  have hn1 : gm ≠ gb := hmp1.ne hch.mem
  have hn2 : g0 ≠ gb := hmp1.ne hbe
  have hch2 := hch.chg hc2 (fun h => hn1 h) (fun x hx h => by obtain ⟨j, hj, rfl⟩ := List.getElem_of_mem hx; exact hmp1.ne (hch.row j hj) h)
  have hbe2 := hc2.blk hbe hn2
  have q6 : w2.cell? ⟨gm, 6, none⟩ = some (.int .i64 g) := blk_cell hch2.mem 6
  have f6 := blk_frozen hch2.mem 6
  have hne := hch2.mem.ne hch2.row (by decide)
  have hm3 := set_row hch2.mem 6 (.int .i64 (g + 1)) _ rfl
  have hr3 := hch2.row.far (a := ⟨gm, 6, none⟩) hne (.int .i64 (g + 1))
  have hge : g0 ≠ gm := blk_ne hbe2 hch2.mem (by decide)
  have hbe3 := blk_far hbe2 (p := ⟨gm, 6, none⟩) hge (.int .i64 (g + 1))
  have qk3 : (w2.setCell ⟨gm, 6, none⟩ (.int .i64 (g + 1))).cell? ⟨g0, 0, none⟩ = some (.int .i64 k0) := by have := blk_cell hbe3 0; rw [← hk0.out] at this; exact this
  have hC3 : Hid (Chain ktI (w2.setCell ⟨gm, 6, none⟩ (.int .i64 (g + 1))) gm gb most h m (g + 1) (L.eraseIdx q)) := ⟨hm3, hr3, hch2.gu⟩
  have hmp3 := Lib.hid (hmp2.chg ((Chg.refl w2 (fun z => z = gm)).set_ (p := ⟨gm, 6, none⟩) rfl (.int .i64 (g + 1))) (fun h => hn1 h.symm))
  have hcA : Hid (Chg w (w2.setCell ⟨gm, 6, none⟩ (.int .i64 (g + 1))) (FM gm gb L)) := (((hc1.mono (fun z _ hz => by
    rcases hz with h1 | h1
    · exact .inl h1
    · exact .inr (.inr h1)))).trans hc2 (fun z _ hz => .inr (.inl hz))).set_ (.inl rfl) _
  clear hch hbe hc1 hmp1 hmp2 hc2 hgb1 hn1 hn2 hch2 hbe2 hne hm3 hr3 hge hbe3
  go_wp2_with fail
  refine start_ (n := 9) (S := fun w' => w'.cell? ⟨gm, 1, none⟩ = some (.map (some gb)) ∧ w'.cell? ⟨g0, 0, none⟩ = some (.int .i64 k0)) (ds := [8]) #[false, false, false, false, false, false, false, false, false] (by kernel_rfl) rfl rfl ⟨q1, qk⟩ (fun hHeld => ?_)
  refine pure_ (i := 0) (N := some 11) (v := ?_) (a' := ?_) #[true, false, false, false, false, false, false, false, false] rfl rfl (by kernel_rfl) (fun _ _ _ h => h) (Or.inl ⟨by rfl, ?_⟩) ?_ ?_
  rotate_left
  · intro w'
    go_simp
    with_reducible rfl
  rotate_left
  · simp only [Act.put, List.setIfInBounds_toArray, List.set_cons_zero, List.set_cons_succ, i64_w, i32_w]
    rfl
  refine pure_ (i := 1) (N := some 12) (v := ?_) (a' := ?_) #[true, true, false, false, false, false, false, false, false] rfl rfl (by kernel_rfl) (fun _ _ _ h => h) (Or.inl ⟨by rfl, ?_⟩) ?_ ?_
  rotate_left
  · intro w'
    go_simp
    with_reducible rfl
  rotate_left
  · simp only [Act.put, List.setIfInBounds_toArray, List.set_cons_zero, List.set_cons_succ, i64_w, i32_w]
    rfl
  refine pure_ (i := 2) (N := some 13) (v := ?_) (a' := ?_) #[true, true, true, false, false, false, false, false, false] rfl rfl (by kernel_rfl) (fun _ _ _ h => h) (Or.inl ⟨by rfl, ?_⟩) ?_ ?_
  rotate_left
  · intro w'
    go_simp
    with_reducible rfl
  rotate_left
  · simp only [Act.put, List.setIfInBounds_toArray, List.set_cons_zero, List.set_cons_succ, i64_w, i32_w]
    rfl
  refine pure_ (i := 4) (N := some 15) (v := ?_) (a' := ?_) #[true, true, true, false, true, false, false, false, false] rfl rfl (by kernel_rfl) (fun _ _ _ h => h) (Or.inl ⟨by rfl, ?_⟩) ?_ ?_
  rotate_left
  · intro w'
    go_simp
    with_reducible rfl
  rotate_left
  · simp only [Act.put, List.setIfInBounds_toArray, List.set_cons_zero, List.set_cons_succ, i64_w, i32_w]
    rfl
  refine pure_ (i := 5) (N := some 16) (v := ?_) (a' := ?_) #[true, true, true, false, true, true, false, false, false] rfl rfl (by kernel_rfl) (fun _ _ _ h => h) (Or.inl ⟨by rfl, ?_⟩) ?_ ?_
  rotate_left
  · intro w'
    go_simp
    with_reducible rfl
  rotate_left
  · simp only [Act.put, List.setIfInBounds_toArray, List.set_cons_zero, List.set_cons_succ, i64_w, i32_w]
    rfl
  refine pure_ (i := 6) (N := some 17) (v := ?_) (a' := ?_) #[true, true, true, false, true, true, true, false, false] rfl rfl (by kernel_rfl) (fun _ _ _ h => h) (Or.inl ⟨by rfl, ?_⟩) ?_ ?_
  rotate_left
  · intro w'
    go_simp
    with_reducible rfl
  rotate_left
  · simp only [Act.put, List.setIfInBounds_toArray, List.set_cons_zero, List.set_cons_succ, i64_w, i32_w]
    rfl
  refine take_ (i := 3) (N := some 14) (v := ?_) (a' := ?_) #[true, true, true, true, true, true, true, false, false] rfl rfl (by kernel_rfl) (fun _ _ _ h => h) (Or.inl ⟨by rfl, ?_⟩) hHeld ?_ ?_
  rotate_left
  · rintro w' ⟨s0, s1⟩
    go_simp
    with_reducible rfl
  rotate_left
  · simp only [Act.put, List.setIfInBounds_toArray, List.set_cons_zero, List.set_cons_succ, i64_w, i32_w]
    rfl
  refine take_ (i := 7) (N := some 18) (v := ?_) (a' := ?_) #[true, true, true, true, true, true, true, true, false] rfl rfl (by kernel_rfl) (fun _ _ _ h => h) (Or.inl ⟨by rfl, ?_⟩) hHeld ?_ ?_
  rotate_left
  · rintro w' ⟨s0, s1⟩
    go_simp
    with_reducible rfl
  rotate_left
  · simp only [Act.put, List.setIfInBounds_toArray, List.set_cons_zero, List.set_cons_succ, i64_w, i32_w]
    rfl
  refine last_ (i := 8) (N := none) #[true, true, true, true, true, true, true, true, true] rfl rfl (by kernel_rfl) (by decide) (fun K hK => ?_)
  refine step_del rfl (.tmp 14) (.tmp 18) 63 3 rfl rfl rfl hrun ?_
  refine hK.out _ _ ?_
  clear hK K
  refine done_ (by kernel_rfl) ?_
  clear hHeld
  go_wp2_with fail
  go_ret
  exact ⟨rfl, HM.out.gone hql hk0.out hhas.out hat.out hC3.out hmp3.out hg1, hcA.out⟩
set_option maxHeartbeats 2000000 in
theorem gone_S (w : World) (B gm gb : Nat) (most h m g : Int) (L : List (Ent ByteArray)) (q : Nat) (hq : q + 1 = L.length) (hM : Memo ktS w B gm gb most h m g L) (hg1 : g + 1 ≤ 1152921504606846976) :
    Calls Try.prog 42 #[.pointer (some ⟨gm, 0, none⟩)] w fun e w' => e = .returned (.string L[q].k) ∧ Memo ktS w' B gm gb most h m (g + 1) (L.eraseIdx q) ∧ Chg w w' (FM gm gb L) := by
  have hql : q < L.length := by omega
  obtain ⟨g0, hg0⟩ : ∃ g0, g0 = L[q].g := ⟨_, rfl⟩
  obtain ⟨k0, hk0⟩ : ∃ k0, k0 = L[q].k := ⟨_, rfl⟩
  have q3 : w.cell? ⟨gm, 3, none⟩ = some (.pointer (some ⟨g0, 0, none⟩)) := by
    have := blk_cell hM.ch.mem 3
    have e : lastG L = some g0 := by unfold lastG; rw [← hq, hg0]; exact gAt_lt hql
    rw [e] at this
    exact this
  have hcut := cut_S w gm gb most h m g L q hql hM.ch
  rw [← hg0] at hcut
  have hgg := hM.g0
  have HM := Lib.hid hM
  rw [← hk0]
  have hok := Lib.hid (hM.okk L[q] (List.getElem_mem hql))
  have hhas : Hid (has k0 L = true) := has_iff.2 ⟨L[q], List.getElem_mem hql, hk0.symm⟩
  have hat : Hid (at_ k0 L = q) := at_of hM.uq hql hk0.symm
  replace hg0 := Lib.hid hg0
  replace hk0 := Lib.hid hk0
  replace hq := Lib.hid hq
  clear hM
  go_enter Try.func42, Try.ntmps42
  go_wp2_with fail
  refine hcut.mono ?_
  clear hcut
  rintro e w1 ⟨rfl, hch, hbe, hc1⟩
  have q1 : w1.cell? ⟨gm, 1, none⟩ = some (.map (some gb)) := blk_cell hch.mem 1
  have qk : w1.cell? ⟨g0, 0, none⟩ = some (.string k0) := by have := blk_cell hbe 0; rw [← hk0.out] at this; exact this
  have hmp1 : MapL ktS w1 gb L := HM.out.mp.chg hc1 (fun hf => by
    rcases hf with h1 | ⟨x, hx, h1⟩
    · exact HM.out.mp.ne HM.out.ch.mem h1.symm
    · obtain ⟨j, hj, rfl⟩ := List.getElem_of_mem hx
      exact HM.out.mp.ne (HM.out.ch.row j hj) h1)
  obtain ⟨w2, hrun, hmp2, hc2⟩ := (hmp1.drewN 1).drop klS (k := k0) (by rw [hk0.out]; exact hok.out) HM.out.uq hhas.out 0
  replace hc2 : Chg w1 w2 (fun z => z = gb) := ⟨hc2.os, hc2.tape, hc2.output, hc2.size, hc2.block⟩
  have hgb1 := hmp1
  have hn1 : gm ≠ gb := hmp1.ne hch.mem
  have hn2 : g0 ≠ gb := hmp1.ne hbe
  have hch2 := hch.chg hc2 (fun h => hn1 h) (fun x hx h => by obtain ⟨j, hj, rfl⟩ := List.getElem_of_mem hx; exact hmp1.ne (hch.row j hj) h)
  have hbe2 := hc2.blk hbe hn2
  have q6 : w2.cell? ⟨gm, 6, none⟩ = some (.int .i64 g) := blk_cell hch2.mem 6
  have f6 := blk_frozen hch2.mem 6
  have hne := hch2.mem.ne hch2.row (by decide)
  have hm3 := set_row hch2.mem 6 (.int .i64 (g + 1)) _ rfl
  have hr3 := hch2.row.far (a := ⟨gm, 6, none⟩) hne (.int .i64 (g + 1))
  have hge : g0 ≠ gm := blk_ne hbe2 hch2.mem (by decide)
  have hbe3 := blk_far hbe2 (p := ⟨gm, 6, none⟩) hge (.int .i64 (g + 1))
  have qk3 : (w2.setCell ⟨gm, 6, none⟩ (.int .i64 (g + 1))).cell? ⟨g0, 0, none⟩ = some (.string k0) := by have := blk_cell hbe3 0; rw [← hk0.out] at this; exact this
  have hC3 : Hid (Chain ktS (w2.setCell ⟨gm, 6, none⟩ (.int .i64 (g + 1))) gm gb most h m (g + 1) (L.eraseIdx q)) := ⟨hm3, hr3, hch2.gu⟩
  have hmp3 := Lib.hid (hmp2.chg ((Chg.refl w2 (fun z => z = gm)).set_ (p := ⟨gm, 6, none⟩) rfl (.int .i64 (g + 1))) (fun h => hn1 h.symm))
  have hcA : Hid (Chg w (w2.setCell ⟨gm, 6, none⟩ (.int .i64 (g + 1))) (FM gm gb L)) := (((hc1.mono (fun z _ hz => by
    rcases hz with h1 | h1
    · exact .inl h1
    · exact .inr (.inr h1)))).trans hc2 (fun z _ hz => .inr (.inl hz))).set_ (.inl rfl) _
  clear hch hbe hc1 hmp1 hmp2 hc2 hgb1 hn1 hn2 hch2 hbe2 hne hm3 hr3 hge hbe3
  go_wp2_with fail
  refine start_ (n := 9) (S := fun w' => w'.cell? ⟨gm, 1, none⟩ = some (.map (some gb)) ∧ w'.cell? ⟨g0, 0, none⟩ = some (.string k0)) (ds := [8]) #[false, false, false, false, false, false, false, false, false] (by kernel_rfl) rfl rfl ⟨q1, qk⟩ (fun hHeld => ?_)
  refine pure_ (i := 0) (N := some 11) (v := ?_) (a' := ?_) #[true, false, false, false, false, false, false, false, false] rfl rfl (by kernel_rfl) (fun _ _ _ h => h) (Or.inl ⟨by rfl, ?_⟩) ?_ ?_
  rotate_left
  · intro w'
    go_simp
    with_reducible rfl
  rotate_left
  · simp only [Act.put, List.setIfInBounds_toArray, List.set_cons_zero, List.set_cons_succ, i64_w, i32_w]
    rfl
  refine pure_ (i := 1) (N := some 12) (v := ?_) (a' := ?_) #[true, true, false, false, false, false, false, false, false] rfl rfl (by kernel_rfl) (fun _ _ _ h => h) (Or.inl ⟨by rfl, ?_⟩) ?_ ?_
  rotate_left
  · intro w'
    go_simp
    with_reducible rfl
  rotate_left
  · simp only [Act.put, List.setIfInBounds_toArray, List.set_cons_zero, List.set_cons_succ, i64_w, i32_w]
    rfl
  refine pure_ (i := 2) (N := some 13) (v := ?_) (a' := ?_) #[true, true, true, false, false, false, false, false, false] rfl rfl (by kernel_rfl) (fun _ _ _ h => h) (Or.inl ⟨by rfl, ?_⟩) ?_ ?_
  rotate_left
  · intro w'
    go_simp
    with_reducible rfl
  rotate_left
  · simp only [Act.put, List.setIfInBounds_toArray, List.set_cons_zero, List.set_cons_succ, i64_w, i32_w]
    rfl
  refine pure_ (i := 4) (N := some 15) (v := ?_) (a' := ?_) #[true, true, true, false, true, false, false, false, false] rfl rfl (by kernel_rfl) (fun _ _ _ h => h) (Or.inl ⟨by rfl, ?_⟩) ?_ ?_
  rotate_left
  · intro w'
    go_simp
    with_reducible rfl
  rotate_left
  · simp only [Act.put, List.setIfInBounds_toArray, List.set_cons_zero, List.set_cons_succ, i64_w, i32_w]
    rfl
  refine pure_ (i := 5) (N := some 16) (v := ?_) (a' := ?_) #[true, true, true, false, true, true, false, false, false] rfl rfl (by kernel_rfl) (fun _ _ _ h => h) (Or.inl ⟨by rfl, ?_⟩) ?_ ?_
  rotate_left
  · intro w'
    go_simp
    with_reducible rfl
  rotate_left
  · simp only [Act.put, List.setIfInBounds_toArray, List.set_cons_zero, List.set_cons_succ, i64_w, i32_w]
    rfl
  refine pure_ (i := 6) (N := some 17) (v := ?_) (a' := ?_) #[true, true, true, false, true, true, true, false, false] rfl rfl (by kernel_rfl) (fun _ _ _ h => h) (Or.inl ⟨by rfl, ?_⟩) ?_ ?_
  rotate_left
  · intro w'
    go_simp
    with_reducible rfl
  rotate_left
  · simp only [Act.put, List.setIfInBounds_toArray, List.set_cons_zero, List.set_cons_succ, i64_w, i32_w]
    rfl
  refine take_ (i := 3) (N := some 14) (v := ?_) (a' := ?_) #[true, true, true, true, true, true, true, false, false] rfl rfl (by kernel_rfl) (fun _ _ _ h => h) (Or.inl ⟨by rfl, ?_⟩) hHeld ?_ ?_
  rotate_left
  · rintro w' ⟨s0, s1⟩
    go_simp
    with_reducible rfl
  rotate_left
  · simp only [Act.put, List.setIfInBounds_toArray, List.set_cons_zero, List.set_cons_succ, i64_w, i32_w]
    rfl
  refine take_ (i := 7) (N := some 18) (v := ?_) (a' := ?_) #[true, true, true, true, true, true, true, true, false] rfl rfl (by kernel_rfl) (fun _ _ _ h => h) (Or.inl ⟨by rfl, ?_⟩) hHeld ?_ ?_
  rotate_left
  · rintro w' ⟨s0, s1⟩
    go_simp
    with_reducible rfl
  rotate_left
  · simp only [Act.put, List.setIfInBounds_toArray, List.set_cons_zero, List.set_cons_succ, i64_w, i32_w]
    rfl
  refine last_ (i := 8) (N := none) #[true, true, true, true, true, true, true, true, true] rfl rfl (by kernel_rfl) (by decide) (fun K hK => ?_)
  refine step_del rfl (.tmp 14) (.tmp 18) 79 9 rfl rfl rfl hrun ?_
  refine hK.out _ _ ?_
  clear hK K
  refine done_ (by kernel_rfl) ?_
  clear hHeld
  go_wp2_with fail
  go_ret
  exact ⟨rfl, HM.out.gone hql hk0.out hhas.out hat.out hC3.out hmp3.out hg1, hcA.out⟩
end Go.Proofs.Ytecgbhiebaiokaa.G
