/- The contracts of Read and Turn of the document's duct. -/
import Derived.Test.YtingiihboibcdaaF1
namespace Go.Proofs.Ytingiihboibcdaa.D
open Go.RowKit Go.Proofs.YtingiihboibcdaaW.PrintWords Go.Proofs.YtingiihboibcdaaW.PrintLast Go.Proofs.YtingiihboibcdaaW.PrintMore
set_option linter.unusedSimpArgs false
variable (B gq : Nat) (v : Value) (D : DS) (w : World)
set_option maxHeartbeats 1000000 in
theorem RRead_calls (n : Int) (h : RD w B gq v D) (hco : D.co + 4194304 ≤ 9223372036854775807) :
    Calls Try.prog 30 #[.pointer (some ⟨gq, 0, none⟩), .int .i64 n] w fun e w' => ∃ v', e = .returned v' ∧ Own w' w.heap.size v' (D.held.take (firstN D n)) ∧ ∃ v1, RD w' B gq v1 (readD D n) ∧ Nx w v v1 ∧ Chg w w' (FQ gq v) := by
  have hk := firstN_le D n
  have hpk := RPeek_calls B gq v D w n h
  unfold readD
  obtain ⟨k, hkk⟩ : ∃ k, k = firstN D n := ⟨_, rfl⟩
  rw [← hkk] at hk hpk ⊢
  clear hkk
  have hgl : Hid ((D.held.take k).length = k) := by show _ = _; rw [List.length_take]; omega
  have hr1 := h.ok.r1
  have hh1 := h.ok.h1
  have hc0 := h.ok.co0
  have hcap : ∀ A c, v = .slice A D.held.length c → D.held.length ≤ c := fun A c e => by have := h.o; rw [e] at this; exact own_cap this
  obtain ⟨A, c, rfl, hrd⟩ := h.slice
  replace hcap := hcap A c rfl
  obtain ⟨A', hsl, hsr⟩ := drop_run A c D.held k hk hcap
  have hll : (D.held.drop k).length ≤ 4194304 := by rw [List.length_drop]; omega
  have hlr : ((D.held.drop k).length : Int) ≤ D.room := by rw [List.length_drop]; omega
  generalize D.held.drop k = Y at *
  have HH := Lib.hid h
  have HB := Lib.hid hrd
  have HS := Lib.hid hsr
  clear h hrd hsr
  go_enter Try.func30, Try.ntmps30
  go_wp2_with fail
  refine hpk.mono ?_
  clear hpk
  rintro e w1 ⟨vr, rfl, hor, hbr⟩
  obtain ⟨Ab, cb, hvb, -⟩ := own_rd hor
  rw [hgl.out] at hvb
  subst hvb
  have hd1 := HH.out.below hbr
  obtain ⟨v2, w2, hrun, ho2, hg2, -⟩ := app_run 28 (.slice none 0 0) [] Y A' (c - k) (own_nil w1 w1.heap.size 5 1) (HS.out w1 (HB.out.below hbr)) (Nat.le_refl _) (by simp; omega)
  rw [List.nil_append] at ho2
  have b2 := below_of_none hg2
  have hd2 := hd1.below b2
  obtain ⟨A2, c2, rfl, -⟩ := own_rd ho2
  obtain ⟨-, q1, -, -, -, -, -⟩ := hd1.cells
  obtain ⟨-, q1', -, -, -, -, -⟩ := hd2.cells
  have hfz := blk_frozen hd2.q 1
  have hBw : B ≤ w1.heap.size := by have := (hd1.fq gq (.inl rfl)); omega
  have hd3 := hd2.setHeld ho2 hBw hlr
  have hor2 := hor.below b2
  have hne2 : some gq ≠ (Value.slice Ab k cb).ownBlock := fun he => by have h1 := own_base hor _ he.symm; have h2 := (HH.out.fq gq (.inl rfl)).2; omega
  have hor3 := own_setCell hor2 (p := ⟨gq, 1, none⟩) hne2 (.slice A2 Y.length c2)
  have hor4 := own_setCell hor3 (p := ⟨gq, 4, none⟩) hne2 (.int .i64 (D.co + (k : Int)))
  have hC2 : Chg w w2 (FQ gq (.slice A D.held.length c)) := Chg.of_below (below_step hbr b2) _
  have hC3 := hC2.set_ (p := ⟨gq, 1, none⟩) (.inl rfl) (.slice A2 Y.length c2)
  have hC4 := Lib.hid (hC3.set_ (p := ⟨gq, 4, none⟩) (.inl rfl) (.int .i64 (D.co + (k : Int))))
  obtain ⟨-, -, -, -, q4, -, -⟩ := hd3.cells
  have hfz4 := blk_frozen hd3.q 4
  dsimp only at q4
  have hd4 := Lib.hid (hd3.setCo (D.co + (k : Int)) (by omega) (by omega))
  have hN : Hid (Nx w (.slice A D.held.length c) (.slice A2 Y.length c2)) := Nx.new ho2 (by have := hbr.size; omega)
  replace hor4 := Lib.hid hor4
  clear hor hor2 hor3 hd1 hd2 hd3 hg2 b2 hC2 hC3 ho2 hbr hBw hne2
  go_wp2_with (at_builtin; refine list_run (by rfl) _ _ rfl rfl rfl hrun ?_)
  go_ret
  exact ⟨_, rfl, hor4.out, _, hd4.out, hN.out, hC4.out⟩

theorem RTurn_bad (at_ mask : Int) (h : RD w B gq v D) (hat : at_ < 0 ∨ (D.held.length : Int) ≤ at_) :
    Calls Try.prog 32 #[.pointer (some ⟨gq, 0, none⟩), .int .i64 at_, .int .u8 mask] w fun e w' => e = .returned (.int .i64 30) ∧ w = w' := by
  obtain ⟨-, q1, -, -, -, -, -⟩ := h.cells
  obtain ⟨A, c, rfl, hrd⟩ := h.slice
  rcases hat with hat | hat
  · go_enter Try.func32, Try.ntmps32
    go_wp2_with fail
    go_ret
    exact ⟨rfl, rfl⟩
  · have h1 : ¬ at_ < 0 := by omega
    go_enter Try.func32, Try.ntmps32
    go_wp2_with fail
    go_ret
    exact ⟨rfl, rfl⟩
set_option maxHeartbeats 400000 in
theorem RTurn_good (at_ mask : Int) (h : RD w B gq v D) (h0 : 0 ≤ at_) (h1 : at_ < (D.held.length : Int)) (hct : D.ct + 1 ≤ 9223372036854775807) :
    Calls Try.prog 32 #[.pointer (some ⟨gq, 0, none⟩), .int .i64 at_, .int .u8 mask] w fun e w' => e = .returned (.int .i64 0) ∧ RD w' B gq v (turnD D at_ mask) ∧ Chg w w' (FQ gq v) := by
  obtain ⟨-, q1, -, -, -, -, -⟩ := h.cells
  have ho := h.o
  unfold Own at ho
  obtain ⟨g, cap, rfl, hgb, hgl⟩ := ho.form (by omega)
  obtain ⟨hc, hf⟩ := own_at h.o at_ h0 h1
  have ht0 := h.ok.ct0
  have hD1 := h.turned at_ (bits .xor .u8 (rd D.held at_) mask)
  have hC1 : Chg w (w.setCell ⟨g, at_.toNat, none⟩ (.int .u8 (bits .xor .u8 (rd D.held at_) mask))) (FQ gq (.slice (some ⟨g, 0, none⟩) D.held.length cap)) := (Chg.refl _ _).set_ (.inr rfl) _
  by_cases hm : mask = 0
  · have e1 : turnD D at_ mask = { D with held := D.held.set at_.toNat (bits .xor .u8 (rd D.held at_) mask) } := by simp [turnD, hm]
    rw [e1]
    subst hm
    replace hD1 := Lib.hid hD1
    replace hC1 := Lib.hid hC1
    clear h ho e1
    go_enter Try.func32, Try.ntmps32
    go_wp2_with fail
    go_ret
    exact ⟨rfl, hD1.out, hC1.out⟩
  · have e1 : turnD D at_ mask = { D with held := D.held.set at_.toNat (bits .xor .u8 (rd D.held at_) mask), ct := D.ct + 1 } := by simp [turnD, hm]
    rw [e1]
    have hmb : (mask != 0) = true := by simp [hm]
    obtain ⟨-, -, -, -, -, q5, -⟩ := hD1.cells
    have hfz := blk_frozen hD1.q 5
    dsimp only at q5
    have hD2 := Lib.hid (hD1.setCt (D.ct + 1) (by omega) (by omega))
    replace hC1 := Lib.hid (hC1.set_ (p := ⟨gq, 5, none⟩) (.inl rfl) (.int .i64 (D.ct + 1)))
    clear h ho hD1 e1 hm
    go_enter Try.func32, Try.ntmps32
    go_wp2_with fail
    go_ret
    exact ⟨rfl, hD2.out, hC1.out⟩
theorem RLose_bad (at_ n : Int) (h : RD w B gq v D) (hat : at_ < 0 ∨ (D.held.length : Int) < at_) :
    Calls Try.prog 33 #[.pointer (some ⟨gq, 0, none⟩), .int .i64 at_, .int .i64 n] w fun e w' => e = .returned (.tuple #[.int .i64 0, .int .i64 30]) ∧ w = w' := by
  obtain ⟨-, q1, -, -, -, -, -⟩ := h.cells
  obtain ⟨A, c, rfl, hrd⟩ := h.slice
  rcases hat with hat | hat
  · go_enter Try.func33, Try.ntmps33
    go_wp2_with fail
    go_ret2
    exact ⟨rfl, rfl⟩
  · have h1 : ¬ at_ < 0 := by omega
    go_enter Try.func33, Try.ntmps33
    go_wp2_with fail
    go_ret2
    exact ⟨rfl, rfl⟩
theorem RLose_neg (at_ n : Int) (h : RD w B gq v D) (h0 : 0 ≤ at_) (h1 : at_ ≤ (D.held.length : Int)) (hn : n < 0) :
    Calls Try.prog 33 #[.pointer (some ⟨gq, 0, none⟩), .int .i64 at_, .int .i64 n] w fun e w' => e = .returned (.tuple #[.int .i64 0, .int .i64 1]) ∧ w = w' := by
  obtain ⟨-, q1, -, -, -, -, -⟩ := h.cells
  obtain ⟨A, c, rfl, hrd⟩ := h.slice
  have h2 : ¬ at_ < 0 := by omega
  go_enter Try.func33, Try.ntmps33
  go_wp2_with fail
  go_ret2
  exact ⟨rfl, rfl⟩
end Go.Proofs.Ytingiihboibcdaa.D
