/- The contract of gone at a memo that may hold more than it is to. -/
import Derived.Test.YtecgbhiebaiokaaH18
namespace Go.Proofs.Ytecgbhiebaiokaa.G
open Go.RowKit Go.Proofs.YtecgbhiebaiokaaW.PrintWords Go.Proofs.YtecgbhiebaiokaaW.PrintLast Go.Proofs.YtecgbhiebaiokaaW.PrintMore
set_option linter.unusedSimpArgs false
set_option linter.unusedVariables false
structure Loose (w : World) (B gm gb : Nat) (most h m g : Int) (L : List (Ent Int)) : Prop where
  ch : Chain ktI w gm gb most h m g L
  mp : MapL ktI w gb L
  bm : B ≤ gm
  bb : B ≤ gb
  bg : ∀ e ∈ L, B ≤ e.g
  uq : Uniq L
  okk : ∀ e ∈ L, ktI.ok e.k
  h0 : 0 ≤ h
  h1 : h ≤ 1152921504606846976
  i0 : 0 ≤ m
  i1 : m ≤ 1152921504606846976
  g0 : 0 ≤ g
  g1 : g ≤ 1152921504606846976
section
variable {w w1 : World} {B gm gb : Nat} {most h m g : Int} {L : List (Ent Int)}
theorem Memo.loose (hM : Memo ktI w B gm gb most h m g L) : Loose w B gm gb most h m g L :=
  ⟨hM.ch, hM.mp, hM.bm, hM.bb, hM.bg, hM.uq, hM.okk, hM.h0, hM.h1, hM.i0, hM.i1, hM.g0, hM.g1⟩
theorem Loose.memo (hM : Loose w B gm gb most h m g L) (h2 : (L.length : Int) ≤ most) (h3 : 1 ≤ most) (h4 : most ≤ 4096) : Memo ktI w B gm gb most h m g L :=
  ⟨hM.ch, hM.mp, hM.bm, hM.bb, hM.bg, hM.uq, hM.okk, h2, h3, h4, hM.h0, hM.h1, hM.i0, hM.i1, hM.g0, hM.g1⟩
theorem Loose.chg {S : Nat → Prop} (hM : Loose w B gm gb most h m g L) (hc : Chg w w1 S) (hn : ∀ k, FM gm gb L k → ¬ S k) : Loose w1 B gm gb most h m g L :=
  ⟨hM.ch.chg hc (hn _ (.inl rfl)) (fun e he => hn _ (.inr (.inr ⟨e, he, rfl⟩))), hM.mp.chg hc (hn _ (.inr (.inl rfl))), hM.bm, hM.bb, hM.bg, hM.uq, hM.okk, hM.h0, hM.h1, hM.i0, hM.i1, hM.g0, hM.g1⟩
theorem Loose.below (hM : Loose w B gm gb most h m g L) (hb : Below w.heap.size w w1) : Loose w1 B gm gb most h m g L := hM.chg (Chg.of_below hb (fun _ => False)) (fun _ _ h => h)
theorem Loose.drewN (hM : Loose w B gm gb most h m g L) (k : Nat) : Loose (w.drewN k) B gm gb most h m g L :=
  ⟨⟨hM.ch.mem, hM.ch.row, hM.ch.gu⟩, hM.mp, hM.bm, hM.bb, hM.bg, hM.uq, hM.okk, hM.h0, hM.h1, hM.i0, hM.i1, hM.g0, hM.g1⟩
theorem Loose.fm (hM : Loose w B gm gb most h m g L) : ∀ k, FM gm gb L k → B ≤ k ∧ k < w.heap.size := by
  rintro k (rfl | rfl | ⟨e, he, rfl⟩)
  · exact ⟨hM.bm, blk_lt hM.ch.mem⟩
  · exact ⟨hM.bb, hM.mp.lt⟩
  · obtain ⟨j, hj, rfl⟩ := List.getElem_of_mem he
    exact ⟨hM.bg _ he, blk_lt (hM.ch.row j hj)⟩
theorem Loose.gone (hM : Loose w B gm gb most h m g L) {q : Nat} (hq : q < L.length) {k : Int} (hk : k = L[q].k) (hh : has k L = true) (hat : at_ k L = q) (hC : Chain ktI w1 gm gb most h m (g + 1) (L.eraseIdx q)) (hmp : MapL ktI w1 gb (cutK k L)) (hg : g + 1 ≤ 1152921504606846976) : Loose w1 B gm gb most h m (g + 1) (L.eraseIdx q) := by
  have he : L.eraseIdx q = cutK k L := by rw [← hat]; exact erase_cut hM.uq hh
  have := hM.g0
  exact ⟨hC, by rw [he]; exact hmp, hM.bm, hM.bb, fun e he => hM.bg e (List.mem_of_mem_eraseIdx he), by rw [he]; exact hM.uq.cut, fun e he => hM.okk e (List.mem_of_mem_eraseIdx he), hM.h0, hM.h1, hM.i0, hM.i1, by omega, hg⟩
theorem Own.apartL {w : World} {B B' gm gb : Nat} {v : Value} {l : List Int} {most h m g : Int} {L : List (Ent Int)} (ho : Own w B v l) (hM : Loose w B' gm gb most h m g L) : ∀ q, FM gm gb L q → v.ownBlock ≠ some q := by
  rintro q (rfl | rfl | ⟨e, he, rfl⟩) hv
  · exact own_ne ho hM.ch.mem (by decide) hv.symm
  · obtain ⟨-, ⟨rfl, -⟩ | ⟨g', cap, cur, rfl, -, hh, -⟩⟩ := ho
    · simp [Value.ownBlock] at hv
    · have : g' = q := by simpa [Value.ownBlock] using hv
      exact hM.mp.ne hh this
  · obtain ⟨j, hj, rfl⟩ := List.getElem_of_mem he
    exact own_ne ho (hM.ch.row j hj) (by decide) hv.symm
end
set_option maxHeartbeats 2000000 in
theorem gone_L (w : World) (B gm gb : Nat) (most h m g : Int) (L : List (Ent Int)) (q : Nat) (hq : q + 1 = L.length) (hM : Loose w B gm gb most h m g L) (hg1 : g + 1 ≤ 1152921504606846976) :
    Calls Try.prog 31 #[.pointer (some ⟨gm, 0, none⟩)] w fun e w' => e = .returned (.int .i64 L[q].k) ∧ Loose w' B gm gb most h m (g + 1) (L.eraseIdx q) ∧ Chg w w' (FM gm gb L) := by
  have hql : q < L.length := by omega
  obtain ⟨g0, hg0⟩ : ∃ g0, g0 = L[q].g := ⟨_, rfl⟩
  obtain ⟨k0, hk0⟩ : ∃ k0, k0 = L[q].k := ⟨_, rfl⟩
  have q3 : w.cell? ⟨gm, 3, none⟩ = some (.pointer (some ⟨g0, 0, none⟩)) := by
    have := blk_cell hM.ch.mem 3
    have e : lastG L = some g0 := by unfold lastG; rw [← hq, hg0]; exact gAt_lt hql
    rw [e] at this
    exact this
  have hcut := cut_I w gm gb most h m g L q hql hM.ch
  rw [← hg0] at hcut
  have hgg := hM.g0
  have HM := Lib.hid hM
  rw [← hk0]
  have hok := Lib.hid (hM.okk L[q] (List.getElem_mem hql))
  have hhas : Hid (has k0 L = true) := has_iff.2 ⟨L[q], List.getElem_mem hql, hk0.symm⟩
  have hat : Hid (at_ k0 L = q) := at_of hM.uq hql hk0.symm
  replace hg0 := Lib.hid hg0
  replace hk0 := Lib.hid hk0
  replace hq := Lib.hid hq
  clear hM
  go_enter Try.func31, Try.ntmps31
  go_wp2_with fail
  refine hcut.mono ?_
  clear hcut
  rintro e w1 ⟨rfl, hch, hbe, hc1⟩
  have q1 : w1.cell? ⟨gm, 1, none⟩ = some (.map (some gb)) := blk_cell hch.mem 1
  have qk : w1.cell? ⟨g0, 0, none⟩ = some (.int .i64 k0) := by have := blk_cell hbe 0; rw [← hk0.out] at this; exact this
  have hmp1 : MapL ktI w1 gb L := HM.out.mp.chg hc1 (fun hf => by
    rcases hf with h1 | ⟨x, hx, h1⟩
    · exact HM.out.mp.ne HM.out.ch.mem h1.symm
    · obtain ⟨j, hj, rfl⟩ := List.getElem_of_mem hx
      exact HM.out.mp.ne (HM.out.ch.row j hj) h1)
  obtain ⟨w2, hrun, hmp2, hc2⟩ := (hmp1.drewN 1).drop klI (k := k0) (by rw [hk0.out]; exact hok.out) HM.out.uq hhas.out 0
  replace hc2 : Chg w1 w2 (fun z => z = gb) := ⟨hc2.os, hc2.tape, hc2.output, hc2.size, hc2.block⟩
  have hgb1 := hmp1
  have hn1 : gm ≠ gb := hmp1.ne hch.mem
  have hn2 : g0 ≠ gb := hmp1.ne hbe
  have hch2 := hch.chg hc2 (fun h => hn1 h) (fun x hx h => by obtain ⟨j, hj, rfl⟩ := List.getElem_of_mem hx; exact hmp1.ne (hch.row j hj) h)
  have hbe2 := hc2.blk hbe hn2
  have q6 : w2.cell? ⟨gm, 6, none⟩ = some (.int .i64 g) := blk_cell hch2.mem 6
  have f6 := blk_frozen hch2.mem 6
  have hne := hch2.mem.ne hch2.row (by decide)
  have hm3 := set_row hch2.mem 6 (.int .i64 (g + 1)) _ rfl
  have hr3 := hch2.row.far (a := ⟨gm, 6, none⟩) hne (.int .i64 (g + 1))
  have hge : g0 ≠ gm := blk_ne hbe2 hch2.mem (by decide)
  have hbe3 := blk_far hbe2 (p := ⟨gm, 6, none⟩) hge (.int .i64 (g + 1))
  have qk3 : (w2.setCell ⟨gm, 6, none⟩ (.int .i64 (g + 1))).cell? ⟨g0, 0, none⟩ = some (.int .i64 k0) := by have := blk_cell hbe3 0; rw [← hk0.out] at this; exact this
  have hC3 : Hid (Chain ktI (w2.setCell ⟨gm, 6, none⟩ (.int .i64 (g + 1))) gm gb most h m (g + 1) (L.eraseIdx q)) := ⟨hm3, hr3, hch2.gu⟩
  have hmp3 := Lib.hid (hmp2.chg ((Chg.refl w2 (fun z => z = gm)).set_ (p := ⟨gm, 6, none⟩) rfl (.int .i64 (g + 1))) (fun h => hn1 h.symm))
  have hcA : Hid (Chg w (w2.setCell ⟨gm, 6, none⟩ (.int .i64 (g + 1))) (FM gm gb L)) := (((hc1.mono (fun z _ hz => by
    rcases hz with h1 | h1
    · exact .inl h1
    · exact .inr (.inr h1)))).trans hc2 (fun z _ hz => .inr (.inl hz))).set_ (.inl rfl) _
  clear hch hbe hc1 hmp1 hmp2 hc2 hgb1 hn1 hn2 hch2 hbe2 hne hm3 hr3 hge hbe3
  go_wp2_with fail
  refine start_ (n := 9) (S := fun w' => w'.cell? ⟨gm, 1, none⟩ = some (.map (some gb)) ∧ w'.cell? ⟨g0, 0, none⟩ = some (.int .i64 k0)) (ds := [8]) #[false, false, false, false, false, false, false, false, false] (by kernel_rfl) rfl rfl ⟨q1, qk⟩ (fun hHeld => ?_)
  refine pure_ (i := 0) (N := some 11) (v := ?_) (a' := ?_) #[true, false, false, false, false, false, false, false, false] rfl rfl (by kernel_rfl) (fun _ _ _ h => h) (Or.inl ⟨by rfl, ?_⟩) ?_ ?_
  rotate_left
  · intro w'
    go_simp
    with_reducible rfl
  rotate_left
  · simp only [Act.put, List.setIfInBounds_toArray, List.set_cons_zero, List.set_cons_succ, i64_w, i32_w]
    rfl
  refine pure_ (i := 1) (N := some 12) (v := ?_) (a' := ?_) #[true, true, false, false, false, false, false, false, false] rfl rfl (by kernel_rfl) (fun _ _ _ h => h) (Or.inl ⟨by rfl, ?_⟩) ?_ ?_
  rotate_left
  · intro w'
    go_simp
    with_reducible rfl
  rotate_left
  · simp only [Act.put, List.setIfInBounds_toArray, List.set_cons_zero, List.set_cons_succ, i64_w, i32_w]
    rfl
  refine pure_ (i := 2) (N := some 13) (v := ?_) (a' := ?_) #[true, true, true, false, false, false, false, false, false] rfl rfl (by kernel_rfl) (fun _ _ _ h => h) (Or.inl ⟨by rfl, ?_⟩) ?_ ?_
  rotate_left
  · intro w'
    go_simp
    with_reducible rfl
  rotate_left
  · simp only [Act.put, List.setIfInBounds_toArray, List.set_cons_zero, List.set_cons_succ, i64_w, i32_w]
    rfl
  refine pure_ (i := 4) (N := some 15) (v := ?_) (a' := ?_) #[true, true, true, false, true, false, false, false, false] rfl rfl (by kernel_rfl) (fun _ _ _ h => h) (Or.inl ⟨by rfl, ?_⟩) ?_ ?_
  rotate_left
  · intro w'
    go_simp
    with_reducible rfl
  rotate_left
  · simp only [Act.put, List.setIfInBounds_toArray, List.set_cons_zero, List.set_cons_succ, i64_w, i32_w]
    rfl
  refine pure_ (i := 5) (N := some 16) (v := ?_) (a' := ?_) #[true, true, true, false, true, true, false, false, false] rfl rfl (by kernel_rfl) (fun _ _ _ h => h) (Or.inl ⟨by rfl, ?_⟩) ?_ ?_
  rotate_left
  · intro w'
    go_simp
    with_reducible rfl
  rotate_left
  · simp only [Act.put, List.setIfInBounds_toArray, List.set_cons_zero, List.set_cons_succ, i64_w, i32_w]
    rfl
  refine pure_ (i := 6) (N := some 17) (v := ?_) (a' := ?_) #[true, true, true, false, true, true, true, false, false] rfl rfl (by kernel_rfl) (fun _ _ _ h => h) (Or.inl ⟨by rfl, ?_⟩) ?_ ?_
  rotate_left
  · intro w'
    go_simp
    with_reducible rfl
  rotate_left
  · simp only [Act.put, List.setIfInBounds_toArray, List.set_cons_zero, List.set_cons_succ, i64_w, i32_w]
    rfl
  refine take_ (i := 3) (N := some 14) (v := ?_) (a' := ?_) #[true, true, true, true, true, true, true, false, false] rfl rfl (by kernel_rfl) (fun _ _ _ h => h) (Or.inl ⟨by rfl, ?_⟩) hHeld ?_ ?_
  rotate_left
  · rintro w' ⟨s0, s1⟩
    go_simp
    with_reducible rfl
  rotate_left
  · simp only [Act.put, List.setIfInBounds_toArray, List.set_cons_zero, List.set_cons_succ, i64_w, i32_w]
    rfl
  refine take_ (i := 7) (N := some 18) (v := ?_) (a' := ?_) #[true, true, true, true, true, true, true, true, false] rfl rfl (by kernel_rfl) (fun _ _ _ h => h) (Or.inl ⟨by rfl, ?_⟩) hHeld ?_ ?_
  rotate_left
  · rintro w' ⟨s0, s1⟩
    go_simp
    with_reducible rfl
  rotate_left
  · simp only [Act.put, List.setIfInBounds_toArray, List.set_cons_zero, List.set_cons_succ, i64_w, i32_w]
    rfl
  refine last_ (i := 8) (N := none) #[true, true, true, true, true, true, true, true, true] rfl rfl (by kernel_rfl) (by decide) (fun K hK => ?_)
  refine step_del rfl (.tmp 14) (.tmp 18) 63 3 rfl rfl rfl hrun ?_
  refine hK.out _ _ ?_
  clear hK K
  refine done_ (by kernel_rfl) ?_
  clear hHeld
  go_wp2_with fail
  go_ret
  exact ⟨rfl, HM.out.gone hql hk0.out hhas.out hat.out hC3.out hmp3.out hg1, hcA.out⟩
end Go.Proofs.Ytecgbhiebaiokaa.G
