/- A key that was asked for lately is there: plain lists, no program. -/
import Derived.Test.YtecgbhiebaiokaaG1
namespace Go.Proofs.Ytecgbhiebaiokaa.G
/-- the keys that came behind, each once -/
def addO (k : Int) (O : List Int) : List Int := if O.any (fun x => x == k) then O else O ++ [k]
/-- all that stands ahead of a key was asked for behind it -/
def Rec (key v : Int) (M : KV) (O : List Int) : Prop := ∃ A R, M = A ++ (key, v) :: R ∧ (∀ x, x ∈ O ↔ x ∈ A.map (·.1)) ∧ O.Nodup
theorem mem_addO {k x : Int} {O : List Int} : x ∈ addO k O ↔ x = k ∨ x ∈ O := by
  unfold addO
  split
  · rename_i h
    constructor
    · exact .inr
    · rintro (rfl | h1)
      · obtain ⟨y, hy, he⟩ := List.any_eq_true.1 h
        rw [← eq_of_beq he]
        exact hy
      · exact h1
  · rw [List.mem_append, List.mem_singleton]
    exact Or.comm
theorem nodup_addO {k : Int} {O : List Int} (h : O.Nodup) : (addO k O).Nodup := by
  unfold addO
  split
  · exact h
  · rename_i hn
    rw [List.nodup_append]
    refine ⟨h, by simp, fun a ha b hb he => hn ?_⟩
    rw [List.mem_singleton] at hb
    subst hb he
    exact List.any_eq_true.2 ⟨a, ha, by simp⟩
theorem Rec.look {key v : Int} {M : KV} {O : List Int} (h : Rec key v M O) (hu : KUniq M) : kvLook key M = some v := by
  obtain ⟨A, R, rfl, -, -⟩ := h
  exact (look_mem hu).2 (by simp)
theorem Rec.len {key v : Int} {M : KV} {O : List Int} (h : Rec key v M O) (hu : KUniq M) : O.length + 1 ≤ M.length := by
  obtain ⟨A, R, rfl, hm, hn⟩ := h
  have h1 : (A.map (·.1)).Nodup := by
    unfold KUniq at hu
    rw [List.map_append, List.nodup_append] at hu
    exact hu.1
  have hp := (List.perm_ext_iff_of_nodup hn h1).2 hm
  have := hp.length_eq
  rw [List.length_map] at this
  rw [List.length_append, List.length_cons]
  omega
theorem kvCut_app (k : Int) (A B : KV) : kvCut k (A ++ B) = kvCut k A ++ kvCut k B := by simp [kvCut]
theorem kvCut_cons {k : Int} {e : Int × Int} (h : e.1 ≠ k) (B : KV) : kvCut k (e :: B) = e :: kvCut k B := by simp [kvCut, h]
theorem Rec.front {key v k x : Int} {M : KV} {O : List Int} (h : Rec key v M O) (hk : k ≠ key) : Rec key v ((k, x) :: kvCut k M) (addO k O) := by
  obtain ⟨A, R, rfl, hm, hn⟩ := h
  refine ⟨(k, x) :: kvCut k A, kvCut k R, ?_, fun y => ?_, nodup_addO hn⟩
  · rw [kvCut_app, kvCut_cons (fun h => hk h.symm)]
    rfl
  · rw [mem_addO, hm y]
    simp only [List.map_cons, List.mem_cons, List.mem_map, kvCut, List.mem_filter]
    constructor
    · rintro (h | ⟨e, he, hy⟩)
      · exact .inl h
      · by_cases hyk : y = k
        · exact .inl hyk
        · exact .inr ⟨e, ⟨he, by simpa [hy] using hyk⟩, hy⟩
    · rintro (h | ⟨e, ⟨he, _⟩, hy⟩)
      · exact .inl h
      · exact .inr ⟨e, he, hy⟩
theorem Rec.get {key v k x : Int} {M : KV} {O : List Int} (h : Rec key v M O) (hk : k ≠ key) (hl : kvLook k M = some x) : Rec key v (kvGet k M) (addO k O) := by
  unfold kvGet
  rw [hl]
  exact h.front hk
theorem Rec.put {key v k x : Int} {M : KV} {O : List Int} {n : Nat} (h : Rec key v M O) (hu : KUniq M) (hk : k ≠ key) (hl : M.length ≤ n) (hO : (addO k O).length < n) : Rec key v (kvPut n k x M) (addO k O) := by
  unfold kvPut
  split
  · exact h.front hk
  · rename_i hh
    have hh' : kvHas k M = false := by simpa using hh
    split
    · have := h.front (x := x) hk
      rwa [kvCut_none hh'] at this
    · have hlen := h.len hu
      have hl1 : M.length = n := by omega
      obtain ⟨A, R, rfl, hm, hn⟩ := h
      have h1 : (A.map (·.1)).Nodup := by
        unfold KUniq at hu
        rw [List.map_append, List.nodup_append] at hu
        exact hu.1
      have hp := ((List.perm_ext_iff_of_nodup hn h1).2 hm).length_eq
      rw [List.length_map] at hp
      have hnk : ¬ (O.any (fun y => y == k)) = true := by
        intro h3
        obtain ⟨y, hy, hyk⟩ := List.any_eq_true.1 h3
        rw [hm y] at hy
        obtain ⟨e, he, hey⟩ := List.mem_map.1 hy
        have : kvHas k (A ++ (key, v) :: R) = true := List.any_eq_true.2 ⟨e, List.mem_append_left _ he, by rw [hey]; exact hyk⟩
        exact hh this
      have hle : (addO k O).length = O.length + 1 := by unfold addO; rw [if_neg hnk]; simp
      rw [List.length_append, List.length_cons] at hl1
      have hR : R ≠ [] := by
        rintro rfl
        simp at hl1
        omega
      refine ⟨(k, x) :: A, R.dropLast, ?_, fun y => ?_, nodup_addO hn⟩
      · rw [List.dropLast_append_cons, List.dropLast_cons_of_ne_nil hR]
        rfl
      · rw [mem_addO, hm y]
        simp
theorem Rec.start {key v : Int} {M : KV} {n : Nat} : Rec key v (kvPut n key v M) [] := by
  unfold kvPut
  split
  · exact ⟨[], kvCut key M, rfl, by simp, by simp⟩
  · split
    · exact ⟨[], M, rfl, by simp, by simp⟩
    · exact ⟨[], M.dropLast, rfl, by simp, by simp⟩
theorem put_pos (n : Nat) (k v : Int) (M : KV) : 1 ≤ (kvPut n k v M).length := by
  unfold kvPut
  split
  · simp
  · split <;> simp
theorem get_pos {k x : Int} {M : KV} (hl : kvLook k M = some x) : 1 ≤ (kvGet k M).length := by
  unfold kvGet
  rw [hl]
  simp
end Go.Proofs.Ytecgbhiebaiokaa.G
