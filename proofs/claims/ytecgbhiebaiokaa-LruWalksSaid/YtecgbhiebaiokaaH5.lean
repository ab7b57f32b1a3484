/- The contracts of front. -/
import Derived.Test.YtecgbhiebaiokaaH4
namespace Go.Proofs.Ytecgbhiebaiokaa.G
open Go.RowKit Go.Proofs.YtecgbhiebaiokaaW.PrintWords Go.Proofs.YtecgbhiebaiokaaW.PrintLast Go.Proofs.YtecgbhiebaiokaaW.PrintMore
set_option linter.unusedSimpArgs false
set_option linter.unusedVariables false
set_option maxHeartbeats 2000000 in
theorem front_I (w : World) (gm gb : Nat) (most h m g : Int) (L : List (Ent Int)) (e : Ent Int) (hC : Chain ktI w gm gb most h m g L) (he : w.heap[e.g]? = some (.cells #[ktI.val e.k, .int .i64 e.v, .pointer none, .pointer none] ktI.tE (0, 0))) (hn : ∀ x ∈ L, x.g ≠ e.g) :
    Calls Try.prog 30 #[.pointer (some ⟨gm, 0, none⟩), .pointer (some ⟨e.g, 0, none⟩)] w fun r w' => r = .returned (.tuple #[]) ∧ Chain ktI w' gm gb most h m g (e :: L) ∧ Chg w w' (fun q => q = gm ∨ q = e.g ∨ ∃ x ∈ L, x.g = q) := by
  have hr := hC.row
  have hm := hC.mem
  have hu := Lib.hid hC.gu
  have hne := hm.ne hr (by decide)
  have hme : e.g ≠ gm := blk_ne he hm (by decide)
  obtain ⟨ge, hge⟩ : ∃ ge, ge = e.g := ⟨_, rfl⟩
  rw [← hge] at he hme ⊢
  have HN := Lib.hid hn
  replace hge := Lib.hid hge
  clear hC hn
  cases L with
  | nil =>
    have q0 : w.cell? ⟨gm, 2, none⟩ = some (.pointer none) := blk_cell hm 2
    have c0 := blk_cell he 3
    simp only [List.getElem?_toArray, List.getElem?_cons_zero, List.getElem?_cons_succ] at c0
    have f0 := blk_frozen he 3
    have he1 := set_row he 3 (.pointer none) _ rfl
    have hm1 : MemF ktI (w.setCell ⟨ge, 3, none⟩ (.pointer none)) gm gb most none none h m g := hm.far hme.symm _
    have q1 : (w.setCell ⟨ge, 3, none⟩ (.pointer none)).cell? ⟨gm, 2, none⟩ = some (.pointer none) := blk_cell hm1 2
    have c1 := blk_cell hm1 3
    simp only [List.getElem?_toArray, List.getElem?_cons_zero, List.getElem?_cons_succ] at c1
    have f1 := blk_frozen hm1 3
    have he2 := blk_far he1 (p := ⟨gm, 3, none⟩) hme (.pointer (some ⟨ge, 0, none⟩))
    have hm2 : MemF ktI ((w.setCell ⟨ge, 3, none⟩ (.pointer none)).setCell ⟨gm, 3, none⟩ (.pointer (some ⟨ge, 0, none⟩))) gm gb most none (some ge) h m g := hm1.set3 (some ge)
    have c2 := blk_cell hm2 2
    simp only [List.getElem?_toArray, List.getElem?_cons_zero, List.getElem?_cons_succ] at c2
    have f2 := blk_frozen hm2 2
    have he3 := Lib.hid (blk_far he2 (p := ⟨gm, 2, none⟩) hme (.pointer (some ⟨ge, 0, none⟩)))
    have hm3 := Lib.hid (hm2.set2 (some ge))
    have hc3 := Lib.hid (((((Chg.refl w (fun q => q = gm ∨ q = ge ∨ ∃ x ∈ ([] : List (Ent Int)), x.g = q)).set_ (p := ⟨ge, 3, none⟩) (.inr (.inl rfl)) (.pointer none)).set_ (p := ⟨gm, 3, none⟩) (.inl rfl) (.pointer (some ⟨ge, 0, none⟩))).set_ (p := ⟨gm, 2, none⟩) (.inl rfl) (.pointer (some ⟨ge, 0, none⟩))))
    clear hr hm he he1 hm1 he2 hm2 hne
    go_enter Try.func30, Try.ntmps30
    go_wp2_with fail
    refine bodyPost_end (v := .tuple #[]) (by simp [results, Try.results30, go_sem]) rfl ⟨rfl, ?_, hc3.out⟩
    have h1 := hm3.out
    have h2 := he3.out
    rw [hge.out] at h1 h2
    rw [hge.out]
    exact Chain.cons h1 h2 (fun j hj => absurd hj (by simp)) (by simp [GUniq]) (by simp)
  | cons x r =>
    obtain ⟨g0, hg0⟩ : ∃ g0, g0 = x.g := ⟨_, rfl⟩
    have hx : g0 ≠ ge := by rw [hg0, hge.out]; exact HN.out x (by simp)
    have hxm : g0 ≠ gm := by rw [hg0]; exact hne 0 (by simp)
    have q0 : w.cell? ⟨gm, 2, none⟩ = some (.pointer (some ⟨g0, 0, none⟩)) := by rw [hg0]; exact blk_cell hm 2
    have c0 := blk_cell he 3
    simp only [List.getElem?_toArray, List.getElem?_cons_zero, List.getElem?_cons_succ] at c0
    have f0 := blk_frozen he 3
    have he1 := set_row he 3 (.pointer (some ⟨g0, 0, none⟩)) _ rfl
    have hm1 := hm.far (a := ⟨ge, 3, none⟩) hme.symm (.pointer (some ⟨g0, 0, none⟩))
    have hr1 := hr.far (a := ⟨ge, 3, none⟩) (fun j hj => by rw [hge.out]; exact HN.out _ (List.getElem_mem hj)) (.pointer (some ⟨g0, 0, none⟩))
    have q1 : (w.setCell ⟨ge, 3, none⟩ (.pointer (some ⟨g0, 0, none⟩))).cell? ⟨gm, 2, none⟩ = some (.pointer (some ⟨g0, 0, none⟩)) := by have := blk_cell hm1 2; rw [hg0] at this ⊢; exact this
    have hb1 := hr1 0 (by simp)
    have c1 := blk_cell hb1 2
    have f1 := blk_frozen hb1 2
    rw [List.getElem_cons_zero, ← hg0] at c1 f1
    simp only [List.getElem?_toArray, List.getElem?_cons_zero, List.getElem?_cons_succ] at c1
    have he2 := blk_far he1 (p := ⟨g0, 2, none⟩) hx.symm (.pointer (some ⟨ge, 0, none⟩))
    have hm2 := hm1.far (a := ⟨g0, 2, none⟩) hxm.symm (.pointer (some ⟨ge, 0, none⟩))
    have hr2 := hr1.set2 hu.out (p := 0) (by simp) (some ge)
    rw [List.getElem_cons_zero, ← hg0] at hr2
    have c2 := blk_cell hm2 2
    simp only [List.getElem?_toArray, List.getElem?_cons_zero, List.getElem?_cons_succ] at c2
    have f2 := blk_frozen hm2 2
    have he3 := Lib.hid (blk_far he2 (p := ⟨gm, 2, none⟩) hme (.pointer (some ⟨ge, 0, none⟩)))
    have hm3 := Lib.hid (hm2.set2 (some ge))
    have hr3 := Lib.hid (hr2.far (a := ⟨gm, 2, none⟩) (fun j hj => hne j hj) (.pointer (some ⟨ge, 0, none⟩)))
    have hc3 := Lib.hid (((((Chg.refl w (fun q => q = gm ∨ q = ge ∨ ∃ y ∈ x :: r, y.g = q)).set_ (p := ⟨ge, 3, none⟩) (.inr (.inl rfl)) (.pointer (some ⟨g0, 0, none⟩))).set_ (p := ⟨g0, 2, none⟩) (.inr (.inr ⟨x, List.mem_cons_self, hg0.symm⟩)) (.pointer (some ⟨ge, 0, none⟩))).set_ (p := ⟨gm, 2, none⟩) (.inl rfl) (.pointer (some ⟨ge, 0, none⟩))))
    replace hg0 := Lib.hid hg0
    clear hr hm he he1 hm1 he2 hm2 hr1 hr2 hb1 hne
    go_enter Try.func30, Try.ntmps30
    go_wp2_with fail
    refine bodyPost_end (v := .tuple #[]) (by simp [results, Try.results30, go_sem]) rfl ⟨rfl, ?_, hc3.out⟩
    have h1 := hm3.out
    have h2 := he3.out
    have h3 := hr3.out
    have hnn := HN.out
    rw [hge.out] at h1 h2 h3
    rw [hge.out]
    refine Chain.cons h1 ?_ h3 hu.out hnn
    rw [hg0.out] at h2 ⊢
    exact h2
set_option maxHeartbeats 2000000 in
theorem front_S (w : World) (gm gb : Nat) (most h m g : Int) (L : List (Ent ByteArray)) (e : Ent ByteArray) (hC : Chain ktS w gm gb most h m g L) (he : w.heap[e.g]? = some (.cells #[ktS.val e.k, .int .i64 e.v, .pointer none, .pointer none] ktS.tE (0, 0))) (hn : ∀ x ∈ L, x.g ≠ e.g) :
    Calls Try.prog 41 #[.pointer (some ⟨gm, 0, none⟩), .pointer (some ⟨e.g, 0, none⟩)] w fun r w' => r = .returned (.tuple #[]) ∧ Chain ktS w' gm gb most h m g (e :: L) ∧ Chg w w' (fun q => q = gm ∨ q = e.g ∨ ∃ x ∈ L, x.g = q) := by
  have hr := hC.row
  have hm := hC.mem
  have hu := Lib.hid hC.gu
  have hne := hm.ne hr (by decide)
  have hme : e.g ≠ gm := blk_ne he hm (by decide)
  obtain ⟨ge, hge⟩ : ∃ ge, ge = e.g := ⟨_, rfl⟩
  rw [← hge] at he hme ⊢
  have HN := Lib.hid hn
  replace hge := Lib.hid hge
  clear hC hn
  cases L with
  | nil =>
    have q0 : w.cell? ⟨gm, 2, none⟩ = some (.pointer none) := blk_cell hm 2
    have c0 := blk_cell he 3
    simp only [List.getElem?_toArray, List.getElem?_cons_zero, List.getElem?_cons_succ] at c0
    have f0 := blk_frozen he 3
    have he1 := set_row he 3 (.pointer none) _ rfl
    have hm1 : MemF ktS (w.setCell ⟨ge, 3, none⟩ (.pointer none)) gm gb most none none h m g := hm.far hme.symm _
    have q1 : (w.setCell ⟨ge, 3, none⟩ (.pointer none)).cell? ⟨gm, 2, none⟩ = some (.pointer none) := blk_cell hm1 2
    have c1 := blk_cell hm1 3
    simp only [List.getElem?_toArray, List.getElem?_cons_zero, List.getElem?_cons_succ] at c1
    have f1 := blk_frozen hm1 3
    have he2 := blk_far he1 (p := ⟨gm, 3, none⟩) hme (.pointer (some ⟨ge, 0, none⟩))
    have hm2 : MemF ktS ((w.setCell ⟨ge, 3, none⟩ (.pointer none)).setCell ⟨gm, 3, none⟩ (.pointer (some ⟨ge, 0, none⟩))) gm gb most none (some ge) h m g := hm1.set3 (some ge)
    have c2 := blk_cell hm2 2
    simp only [List.getElem?_toArray, List.getElem?_cons_zero, List.getElem?_cons_succ] at c2
    have f2 := blk_frozen hm2 2
    have he3 := Lib.hid (blk_far he2 (p := ⟨gm, 2, none⟩) hme (.pointer (some ⟨ge, 0, none⟩)))
    have hm3 := Lib.hid (hm2.set2 (some ge))
    have hc3 := Lib.hid (((((Chg.refl w (fun q => q = gm ∨ q = ge ∨ ∃ x ∈ ([] : List (Ent ByteArray)), x.g = q)).set_ (p := ⟨ge, 3, none⟩) (.inr (.inl rfl)) (.pointer none)).set_ (p := ⟨gm, 3, none⟩) (.inl rfl) (.pointer (some ⟨ge, 0, none⟩))).set_ (p := ⟨gm, 2, none⟩) (.inl rfl) (.pointer (some ⟨ge, 0, none⟩))))
    clear hr hm he he1 hm1 he2 hm2 hne
    go_enter Try.func41, Try.ntmps41
    go_wp2_with fail
    refine bodyPost_end (v := .tuple #[]) (by simp [results, Try.results41, go_sem]) rfl ⟨rfl, ?_, hc3.out⟩
    have h1 := hm3.out
    have h2 := he3.out
    rw [hge.out] at h1 h2
    rw [hge.out]
    exact Chain.cons h1 h2 (fun j hj => absurd hj (by simp)) (by simp [GUniq]) (by simp)
  | cons x r =>
    obtain ⟨g0, hg0⟩ : ∃ g0, g0 = x.g := ⟨_, rfl⟩
    have hx : g0 ≠ ge := by rw [hg0, hge.out]; exact HN.out x (by simp)
    have hxm : g0 ≠ gm := by rw [hg0]; exact hne 0 (by simp)
    have q0 : w.cell? ⟨gm, 2, none⟩ = some (.pointer (some ⟨g0, 0, none⟩)) := by rw [hg0]; exact blk_cell hm 2
    have c0 := blk_cell he 3
    simp only [List.getElem?_toArray, List.getElem?_cons_zero, List.getElem?_cons_succ] at c0
    have f0 := blk_frozen he 3
    have he1 := set_row he 3 (.pointer (some ⟨g0, 0, none⟩)) _ rfl
    have hm1 := hm.far (a := ⟨ge, 3, none⟩) hme.symm (.pointer (some ⟨g0, 0, none⟩))
    have hr1 := hr.far (a := ⟨ge, 3, none⟩) (fun j hj => by rw [hge.out]; exact HN.out _ (List.getElem_mem hj)) (.pointer (some ⟨g0, 0, none⟩))
    have q1 : (w.setCell ⟨ge, 3, none⟩ (.pointer (some ⟨g0, 0, none⟩))).cell? ⟨gm, 2, none⟩ = some (.pointer (some ⟨g0, 0, none⟩)) := by have := blk_cell hm1 2; rw [hg0] at this ⊢; exact this
    have hb1 := hr1 0 (by simp)
    have c1 := blk_cell hb1 2
    have f1 := blk_frozen hb1 2
    rw [List.getElem_cons_zero, ← hg0] at c1 f1
    simp only [List.getElem?_toArray, List.getElem?_cons_zero, List.getElem?_cons_succ] at c1
    have he2 := blk_far he1 (p := ⟨g0, 2, none⟩) hx.symm (.pointer (some ⟨ge, 0, none⟩))
    have hm2 := hm1.far (a := ⟨g0, 2, none⟩) hxm.symm (.pointer (some ⟨ge, 0, none⟩))
    have hr2 := hr1.set2 hu.out (p := 0) (by simp) (some ge)
    rw [List.getElem_cons_zero, ← hg0] at hr2
    have c2 := blk_cell hm2 2
    simp only [List.getElem?_toArray, List.getElem?_cons_zero, List.getElem?_cons_succ] at c2
    have f2 := blk_frozen hm2 2
    have he3 := Lib.hid (blk_far he2 (p := ⟨gm, 2, none⟩) hme (.pointer (some ⟨ge, 0, none⟩)))
    have hm3 := Lib.hid (hm2.set2 (some ge))
    have hr3 := Lib.hid (hr2.far (a := ⟨gm, 2, none⟩) (fun j hj => hne j hj) (.pointer (some ⟨ge, 0, none⟩)))
    have hc3 := Lib.hid (((((Chg.refl w (fun q => q = gm ∨ q = ge ∨ ∃ y ∈ x :: r, y.g = q)).set_ (p := ⟨ge, 3, none⟩) (.inr (.inl rfl)) (.pointer (some ⟨g0, 0, none⟩))).set_ (p := ⟨g0, 2, none⟩) (.inr (.inr ⟨x, List.mem_cons_self, hg0.symm⟩)) (.pointer (some ⟨ge, 0, none⟩))).set_ (p := ⟨gm, 2, none⟩) (.inl rfl) (.pointer (some ⟨ge, 0, none⟩))))
    replace hg0 := Lib.hid hg0
    clear hr hm he he1 hm1 he2 hm2 hr1 hr2 hb1 hne
    go_enter Try.func41, Try.ntmps41
    go_wp2_with fail
    refine bodyPost_end (v := .tuple #[]) (by simp [results, Try.results41, go_sem]) rfl ⟨rfl, ?_, hc3.out⟩
    have h1 := hm3.out
    have h2 := he3.out
    have h3 := hr3.out
    have hnn := HN.out
    rw [hge.out] at h1 h2 h3
    rw [hge.out]
    refine Chain.cons h1 ?_ h3 hu.out hnn
    rw [hg0.out] at h2 ⊢
    exact h2
end Go.Proofs.Ytecgbhiebaiokaa.G
