/- Keys that are let go, and a memo made less: plain lists, no program. -/
import Derived.Test.YtecgbhiebaiokaaG2
namespace Go.Proofs.Ytecgbhiebaiokaa.G
/-- Drop -/
def kvDrops (keys : List Int) (M : KV) : KV := keys.foldl (fun M k => kvCut k M) M
theorem kvDrops_nil (M : KV) : kvDrops [] M = M := rfl
theorem kvDrops_snoc (keys : List Int) (k : Int) (M : KV) : kvDrops (keys ++ [k]) M = kvCut k (kvDrops keys M) := by simp [kvDrops]
theorem kvDrops_take {keys : List Int} {j : Nat} (hj : j < keys.length) (M : KV) : kvDrops (keys.take (j + 1)) M = kvCut keys[j] (kvDrops (keys.take j) M) := by
  rw [List.take_succ_eq_append_getElem hj, kvDrops_snoc]
theorem kvCut_le (k : Int) (M : KV) : (kvCut k M).length ≤ M.length := List.length_filter_le _ _
theorem kvDrops_le (keys : List Int) : ∀ M : KV, (kvDrops keys M).length ≤ M.length := by
  induction keys with
  | nil => intro M; exact Nat.le_refl _
  | cons k r ih =>
    intro M
    exact Nat.le_trans (ih (kvCut k M)) (kvCut_le k M)
/-- Resize: what stays, and what goes, the oldest first -/
def kvGone (n : Nat) (M : KV) : List Int := ((M.drop n).map (·.1)).reverse
theorem kvGone_step {M : KV} {q : Nat} (hq : q < M.length) : kvGone q M = kvGone (q + 1) M ++ [M[q].1] := by
  unfold kvGone
  rw [List.drop_eq_getElem_cons hq, List.map_cons, List.reverse_cons]
theorem kvGone_all {M : KV} {n : Nat} (h : M.length ≤ n) : kvGone n M = [] := by
  unfold kvGone
  rw [List.drop_eq_nil_of_le h]
  rfl
theorem kvGone_len (n : Nat) (M : KV) : (kvGone n M).length = M.length - n := by simp [kvGone]
end Go.Proofs.Ytecgbhiebaiokaa.G
