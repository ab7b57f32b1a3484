/- A value is stored anew in an entry of a memo. -/
import Derived.Test.YtecgbhiebaiokaaH9
namespace Go.Proofs.Ytecgbhiebaiokaa.G
open Go.RowKit Go.Proofs.YtecgbhiebaiokaaW.PrintWords Go.Proofs.YtecgbhiebaiokaaW.PrintLast Go.Proofs.YtecgbhiebaiokaaW.PrintMore
section
variable {α : Type}
def setV (L : List (Ent α)) (i : Nat) (hi : i < L.length) (v : Int) : List (Ent α) := L.set i ⟨L[i].k, v, L[i].g⟩
theorem setV_len (L : List (Ent α)) (i : Nat) (hi : i < L.length) (v : Int) : (setV L i hi v).length = L.length := by simp [setV]
theorem setV_kg (L : List (Ent α)) (i : Nat) (hi : i < L.length) (v : Int) : (setV L i hi v).map (fun e => (e.k, e.g)) = L.map (fun e => (e.k, e.g)) := by
  apply List.ext_getElem
  · simp [setV]
  · intro j h1 h2
    simp only [setV, List.getElem_map, List.getElem_set]
    split
    · rename_i he
      subst he
      rfl
    · rfl
theorem setV_g (L : List (Ent α)) (i : Nat) (hi : i < L.length) (v : Int) : (setV L i hi v).map (·.g) = L.map (·.g) := by
  have := congrArg (List.map Prod.snd) (setV_kg L i hi v)
  simpa [List.map_map, Function.comp_def] using this
theorem setV_k (L : List (Ent α)) (i : Nat) (hi : i < L.length) (v : Int) : (setV L i hi v).map (·.k) = L.map (·.k) := by
  have := congrArg (List.map Prod.fst) (setV_kg L i hi v)
  simpa [List.map_map, Function.comp_def] using this
theorem setV_gAt (L : List (Ent α)) (i : Nat) (hi : i < L.length) (v : Int) (j : Nat) : gAt (setV L i hi v) j = gAt L j := gAt_set L i hi v j
theorem setV_nw (L : List (Ent α)) (i : Nat) (hi : i < L.length) (v : Int) (j : Nat) : nwAt (setV L i hi v) j = nwAt L j := by
  cases j with
  | zero => rfl
  | succ j => exact setV_gAt L i hi v j
theorem setV_erase (L : List (Ent α)) (i : Nat) (hi : i < L.length) (v : Int) : (setV L i hi v).eraseIdx i = L.eraseIdx i := by
  simp [setV, List.eraseIdx_set_eq]
theorem Chain.setVal {T : KT α} {w : World} {gm gb : Nat} {most h m g : Int} {L : List (Ent α)} (hC : Chain T w gm gb most h m g L) {i : Nat} (hi : i < L.length) (v : Int) (ha : T.tE ≠ T.tM) : Chain T (w.setCell ⟨L[i].g, 1, none⟩ (.int .i64 v)) gm gb most h m g (setV L i hi v) := by
  refine ⟨?_, fun j hj => ?_, ?_⟩
  · have e : lastG (setV L i hi v) = lastG L := by unfold lastG; rw [setV_len, setV_nw]
    rw [setV_gAt, e]
    exact hC.mem.far (hC.mem.ne hC.row ha i hi).symm _
  · rw [setV_len] at hj
    have h1 := hC.row j hj
    rw [setV_nw, show olAt (setV L i hi v) j = olAt L j from setV_gAt L i hi v _]
    by_cases he : i = j
    · subst he
      have e : (setV L i hi v)[i] = ⟨L[i].k, v, L[i].g⟩ := by simp [setV]
      rw [e]
      exact set_row h1 1 _ _ rfl
    · have e : (setV L i hi v)[j] = L[j] := by simp [setV, he]
      rw [e]
      exact blk_far h1 (hC.gu.ne hj hi (fun h => he h.symm)) _
  · unfold GUniq
    rw [setV_g]
    exact hC.gu
variable [DecidableEq α]
theorem look_kg (k : α) (L : List (Ent α)) : lookG k L = ((L.map (fun e => (e.k, e.g))).find? (fun e => e.1 == k)).map (·.2) := by
  rw [List.find?_map, Option.map_map]
  rfl
theorem has_kg (k : α) (L : List (Ent α)) : has k L = (L.map (·.k)).any (fun x => x == k) := by
  unfold has
  rw [List.any_map]
  rfl
theorem Memo.setVal {T : KT α} {w : World} {B gm gb : Nat} {most h m g : Int} {L : List (Ent α)} (hM : Memo T w B gm gb most h m g L) {i : Nat} (hi : i < L.length) (v : Int) (ha : T.tE ≠ T.tM) : Memo T (w.setCell ⟨L[i].g, 1, none⟩ (.int .i64 v)) B gm gb most h m g (setV L i hi v) := by
  have hmem : ∀ e ∈ setV L i hi v, ∃ e' ∈ L, e'.k = e.k ∧ e'.g = e.g := fun e he => by
    have : (e.k, e.g) ∈ L.map (fun e => (e.k, e.g)) := by rw [← setV_kg L i hi v]; exact List.mem_map.2 ⟨e, he, rfl⟩
    obtain ⟨e', h1, h2⟩ := List.mem_map.1 this
    simp only [Prod.mk.injEq] at h2
    exact ⟨e', h1, h2.1, h2.2⟩
  refine ⟨hM.ch.setVal hi v ha, ?_, hM.bm, hM.bb, fun e he => ?_, ?_, fun e he => ?_, by rw [setV_len]; exact hM.ln, hM.m1, hM.m2, hM.h0, hM.h1, hM.i0, hM.i1, hM.g0, hM.g1⟩
  · refine (hM.mp.chg ((Chg.refl w (fun q => q = L[i].g)).set_ (p := ⟨L[i].g, 1, none⟩) rfl _) (fun hq => hM.mp.ne (hM.ch.row i hi) hq.symm)).same (setV_len L i hi v) (fun k => ?_) (fun k => ?_)
    · rw [look_kg, look_kg, setV_kg]
    · rw [has_kg, has_kg, setV_k]
  · obtain ⟨e', h1, _, h3⟩ := hmem e he
    rw [← h3]; exact hM.bg e' h1
  · unfold Uniq
    rw [setV_k]
    exact hM.uq
  · obtain ⟨e', h1, h2, _⟩ := hmem e he
    rw [← h2]; exact hM.okk e' h1
theorem setV_has (k : α) (L : List (Ent α)) (i : Nat) (hi : i < L.length) (v : Int) : has k (setV L i hi v) = has k L := by rw [has_kg, has_kg, setV_k]
theorem setV_at (k : α) (L : List (Ent α)) (i : Nat) (hi : i < L.length) (v : Int) : at_ k (setV L i hi v) = at_ k L := by
  have e : ∀ M : List (Ent α), at_ k M = (M.map (·.k)).findIdx (fun x => x == k) := fun M => by unfold at_; rw [List.findIdx_map]; rfl
  rw [e, e, setV_k]
end
end Go.Proofs.Ytecgbhiebaiokaa.G
