/- A memo as a list of keys and values, the newest first: plain lists, no program. -/
import Derived.WalkKit
namespace Go.Proofs.Ytecgbhiebaiokaa.G
/-- an entry: its key, its value, its block -/
structure Ent (α : Type) where
  k : α
  v : Int
  g : Nat
section
variable {α : Type} [DecidableEq α]
/-- where a key stands -/
def at_ (k : α) (L : List (Ent α)) : Nat := L.findIdx (fun e => e.k == k)
def has (k : α) (L : List (Ent α)) : Bool := L.any (fun e => e.k == k)
theorem at_lt {k : α} {L : List (Ent α)} (h : has k L = true) : at_ k L < L.length := by
  unfold has at_ at *
  rw [List.findIdx_lt_length]
  simpa using h
theorem at_key {k : α} {L : List (Ent α)} (h : has k L = true) : (L[at_ k L]'(at_lt h)).k = k := by
  have := List.findIdx_getElem (p := fun e : Ent α => e.k == k) (xs := L) (w := at_lt h)
  exact eq_of_beq this
def Uniq (L : List (Ent α)) : Prop := (L.map (·.k)).Nodup
/-- without one key -/
def cutK (k : α) (L : List (Ent α)) : List (Ent α) := L.filter (fun e => e.k ≠ k)
theorem erase_cut {k : α} : ∀ {L : List (Ent α)}, Uniq L → has k L = true → L.eraseIdx (at_ k L) = cutK k L
  | [], _, h => by simp [has] at h
  | x :: r, hu, h => by
    obtain ⟨hx, hr⟩ := List.nodup_cons.1 hu
    by_cases hk : x.k = k
    · have e1 : at_ k (x :: r) = 0 := by simp [at_, List.findIdx_cons, hk]
      rw [e1, List.eraseIdx_zero, List.tail_cons]
      unfold cutK
      rw [List.filter_cons, if_neg (by simp [hk])]
      symm
      rw [List.filter_eq_self]
      intro e he
      simp only [ne_eq, decide_not, Bool.not_eq_eq_eq_not, Bool.not_true, decide_eq_false_iff_not]
      rintro hek
      exact hx (by show x.k ∈ _; rw [hk, ← hek]; exact List.mem_map_of_mem he)
    · have hb : (x.k == k) = false := by simp [hk]
      have e1 : at_ k (x :: r) = at_ k r + 1 := by simp [at_, List.findIdx_cons, hb]
      have h' : has k r = true := by simpa [has, hk] using h
      rw [e1, List.eraseIdx_cons_succ, erase_cut hr h']
      unfold cutK
      rw [List.filter_cons, if_pos (by simp [hk])]
theorem cut_of_not {k : α} {L : List (Ent α)} (h : has k L = false) : cutK k L = L := by
  unfold cutK
  rw [List.filter_eq_self]
  intro e he
  unfold has at h
  rw [List.any_eq_false] at h
  have := h e he
  simpa using this
theorem mem_cut {k : α} {L : List (Ent α)} {e : Ent α} : e ∈ cutK k L ↔ e ∈ L ∧ e.k ≠ k := by simp [cutK]
theorem Uniq.cut {k : α} {L : List (Ent α)} (h : Uniq L) : Uniq (cutK k L) := by
  unfold Uniq cutK at *
  exact h.sublist (List.Sublist.map _ List.filter_sublist)
theorem has_iff {k : α} {L : List (Ent α)} : has k L = true ↔ ∃ e ∈ L, e.k = k := by simp [has]
theorem not_has_iff {k : α} {L : List (Ent α)} : has k L = false ↔ ∀ e ∈ L, e.k ≠ k := by
  unfold has
  rw [List.any_eq_false]
  simp
end

/-! two memos, one with more room: pairs of keys and values -/
abbrev KV := List (Int × Int)
def kvHas (k : Int) (L : KV) : Bool := L.any (fun e => e.1 == k)
def kvCut (k : Int) (L : KV) : KV := L.filter (fun e => e.1 ≠ k)
def kvLook (k : Int) (L : KV) : Option Int := (L.find? (fun e => e.1 == k)).map (·.2)
/-- Get -/
def kvGet (k : Int) (L : KV) : KV := match kvLook k L with
  | some v => (k, v) :: kvCut k L
  | none => L
/-- Put, of at most so many -/
def kvPut (n : Nat) (k v : Int) (L : KV) : KV := if kvHas k L then (k, v) :: kvCut k L else if L.length < n then (k, v) :: L else (k, v) :: L.dropLast
def KUniq (L : KV) : Prop := (L.map (·.1)).Nodup
structure Less (a b : Nat) (M N : KV) : Prop where
  uM : KUniq M
  uN : KUniq N
  lM : M.length ≤ a
  lN : N.length ≤ b
  sub : (M.length < a ∧ M = N) ∨ (M.length = a ∧ List.Sublist M N)
theorem kvCut_sub {M N : KV} (k : Int) (h : List.Sublist M N) : List.Sublist (kvCut k M) (kvCut k N) := List.Sublist.filter _ h
theorem Less.sl {a b : Nat} {M N : KV} (h : Less a b M N) : List.Sublist M N := by
  rcases h.sub with ⟨_, rfl⟩ | ⟨_, hs⟩
  · exact List.Sublist.refl _
  · exact hs
theorem look_mem {k v : Int} : ∀ {L : KV}, KUniq L → (kvLook k L = some v ↔ (k, v) ∈ L)
  | [], _ => by simp [kvLook]
  | x :: r, hu => by
    obtain ⟨hx, hr⟩ := List.nodup_cons.1 hu
    by_cases hk : x.1 = k
    · have : kvLook k (x :: r) = some x.2 := by simp [kvLook, hk]
      rw [this]
      constructor
      · intro h
        injection h with h
        rw [← hk, ← h]
        exact List.mem_cons_self
      · intro h
        rcases List.mem_cons.1 h with h | h
        · rw [← h]
        · exact absurd (List.mem_map_of_mem (f := (·.1)) h) (by rw [← hk] at *; exact hx)
    · have : kvLook k (x :: r) = kvLook k r := by simp [kvLook, hk]
      rw [this, look_mem hr]
      constructor
      · intro h; exact List.mem_cons_of_mem _ h
      · intro h
        rcases List.mem_cons.1 h with h | h
        · exact absurd (by rw [← h]) hk
        · exact h
theorem look_none {k : Int} {L : KV} : kvLook k L = none ↔ kvHas k L = false := by
  unfold kvLook kvHas
  rw [Option.map_eq_none_iff, List.find?_eq_none, List.any_eq_false]
theorem has_true {k : Int} {L : KV} : kvHas k L = true ↔ ∃ v, kvLook k L = some v := by
  cases h : kvLook k L with
  | none => simp [look_none.1 h]
  | some v =>
    have : kvHas k L ≠ false := fun h' => by rw [look_none.2 h'] at h; cases h
    simp at this
    simp [this]
/-- what the lesser one finds the greater one finds -/
theorem Less.look {a b : Nat} {M N : KV} (h : Less a b M N) {k v : Int} (hl : kvLook k M = some v) : kvLook k N = some v :=
  (look_mem h.uN).2 (h.sl.subset ((look_mem h.uM).1 hl))
theorem kvCut_none {k : Int} {L : KV} (h : kvHas k L = false) : kvCut k L = L := by
  unfold kvCut
  rw [List.filter_eq_self]
  intro e he
  unfold kvHas at h
  rw [List.any_eq_false] at h
  simpa using h e he
theorem kvCut_len {k v : Int} {L : KV} (hu : KUniq L) (h : kvLook k L = some v) : (kvCut k L).length + 1 = L.length := by
  induction L with
  | nil => simp [kvLook] at h
  | cons x r ih =>
    obtain ⟨hx, hr⟩ := List.nodup_cons.1 hu
    by_cases hk : x.1 = k
    · have hn : kvHas k r = false := by
        unfold kvHas
        rw [List.any_eq_false]
        intro e he hek
        exact hx (by show x.1 ∈ _; rw [hk, ← (by simpa using hek : e.1 = k)]; exact List.mem_map_of_mem he)
      have : kvCut k (x :: r) = kvCut k r := by unfold kvCut; rw [List.filter_cons, if_neg (by simp [hk])]
      rw [this, kvCut_none hn]
      rfl
    · have e1 : kvLook k (x :: r) = kvLook k r := by simp [kvLook, hk]
      rw [e1] at h
      have : kvCut k (x :: r) = x :: kvCut k r := by unfold kvCut; rw [List.filter_cons, if_pos (by simp [hk])]
      rw [this, List.length_cons, ih hr h]
      rfl
theorem KUniq.cut {k : Int} {L : KV} (h : KUniq L) : KUniq (kvCut k L) := by
  unfold KUniq kvCut at *
  exact h.sublist (List.Sublist.map _ List.filter_sublist)
theorem KUniq.cons_cut {k v : Int} {L : KV} (h : KUniq L) : KUniq ((k, v) :: kvCut k L) := by
  refine List.nodup_cons.2 ⟨?_, h.cut⟩
  intro hm
  obtain ⟨e, he, hek⟩ := List.mem_map.1 hm
  simp [kvCut] at he
  exact he.2 hek
theorem KUniq.cons {k v : Int} {L : KV} (h : KUniq L) (hn : kvHas k L = false) : KUniq ((k, v) :: L) := by
  have := h.cons_cut (k := k) (v := v)
  rwa [kvCut_none hn] at this
theorem Less.get {a b : Nat} {M N : KV} (h : Less a b M N) (k : Int) : Less a b (kvGet k M) (kvGet k N) := by
  unfold kvGet
  cases hm : kvLook k M with
  | some v =>
    rw [h.look hm]
    have l1 := kvCut_len h.uM hm
    have l2 := kvCut_len h.uN (h.look hm)
    have h1 := h.lM
    have h2 := h.lN
    refine ⟨h.uM.cons_cut, h.uN.cons_cut, by simp only [List.length_cons]; omega, by simp only [List.length_cons]; omega, ?_⟩
    rcases h.sub with ⟨hl, rfl⟩ | ⟨hl, hs⟩
    · left; exact ⟨by simp only [List.length_cons]; omega, rfl⟩
    · right; exact ⟨by simp only [List.length_cons]; omega, (kvCut_sub k hs).cons_cons _⟩
  | none =>
    cases hn : kvLook k N with
    | none => exact h
    | some v =>
      have l2 := kvCut_len h.uN hn
      have h2 := h.lN
      refine ⟨h.uM, h.uN.cons_cut, h.lM, by simp only [List.length_cons]; omega, ?_⟩
      rcases h.sub with ⟨hl, rfl⟩ | ⟨hl, hs⟩
      · rw [hm] at hn; cases hn
      · right
        refine ⟨hl, ?_⟩
        have := kvCut_sub k hs
        rw [kvCut_none (look_none.1 hm)] at this
        exact this.cons _
theorem dropLast_sub {M N : KV} (h : List.Sublist M N) : List.Sublist M.dropLast N.dropLast := by
  have := (List.reverse_sublist.2 h).tail
  rw [← List.reverse_sublist]
  simpa [List.tail_reverse] using this
theorem KUniq.drop {L : KV} (h : KUniq L) : KUniq L.dropLast := by
  unfold KUniq at *
  exact h.sublist (List.Sublist.map _ (List.dropLast_sublist L))
theorem has_drop {k : Int} {L : KV} (h : kvHas k L = false) : kvHas k L.dropLast = false := by
  unfold kvHas at *
  rw [List.any_eq_false] at *
  exact fun e he => h e ((List.dropLast_sublist L).subset he)
theorem Less.put {a b : Nat} {M N : KV} (hab : a ≤ b) (ha : 1 ≤ a) (h : Less a b M N) (k v : Int) : Less a b (kvPut a k v M) (kvPut b k v N) := by
  have h1 := h.lM
  have h2 := h.lN
  unfold kvPut
  cases hm : kvHas k M with
  | true =>
    obtain ⟨x, hx⟩ := has_true.1 hm
    have hn : kvHas k N = true := has_true.2 ⟨x, h.look hx⟩
    rw [hn]
    simp only [if_true]
    have l1 := kvCut_len h.uM hx
    have l2 := kvCut_len h.uN (h.look hx)
    refine ⟨h.uM.cons_cut, h.uN.cons_cut, by simp only [List.length_cons]; omega, by simp only [List.length_cons]; omega, ?_⟩
    rcases h.sub with ⟨hl, rfl⟩ | ⟨hl, hs⟩
    · left; exact ⟨by simp only [List.length_cons]; omega, rfl⟩
    · right; exact ⟨by simp only [List.length_cons]; omega, (kvCut_sub k hs).cons_cons _⟩
  | false =>
    simp only [Bool.false_eq_true, if_false]
    rcases h.sub with ⟨hl, rfl⟩ | ⟨hl, hs⟩
    · rw [hm, if_pos hl, if_neg (by simp), if_pos (by omega)]
      refine ⟨h.uM.cons hm, h.uM.cons hm, by simp only [List.length_cons]; omega, by simp only [List.length_cons]; omega, ?_⟩
      rcases Nat.lt_or_ge (M.length + 1) a with h3 | h3
      · left; exact ⟨by simpa using h3, rfl⟩
      · right; exact ⟨by simp only [List.length_cons]; omega, List.Sublist.refl _⟩
    · rw [if_neg (by omega)]
      have hd : M.dropLast.length + 1 = a := by rw [List.length_dropLast]; omega
      have hm1 : kvHas k M.dropLast = false := has_drop hm
      have uM := h.uM.drop.cons (v := v) hm1
      cases hn : kvHas k N with
      | true =>
        obtain ⟨x, hx⟩ := has_true.1 hn
        have l2 := kvCut_len h.uN hx
        simp only [if_true]
        refine ⟨uM, h.uN.cons_cut, by simp only [List.length_cons]; omega, by simp only [List.length_cons]; omega, .inr ⟨by simp only [List.length_cons]; omega, ?_⟩⟩
        have := kvCut_sub k hs
        rw [kvCut_none hm] at this
        exact ((List.dropLast_sublist M).trans this).cons_cons _
      | false =>
        simp only [Bool.false_eq_true, if_false]
        by_cases hlb : N.length < b
        · rw [if_pos hlb]
          exact ⟨uM, h.uN.cons hn, by simp only [List.length_cons]; omega, by simp only [List.length_cons]; omega, .inr ⟨by simp only [List.length_cons]; omega, ((List.dropLast_sublist M).trans hs).cons_cons _⟩⟩
        · rw [if_neg hlb]
          refine ⟨uM, h.uN.drop.cons (has_drop hn), by simp only [List.length_cons]; omega, by simp only [List.length_cons, List.length_dropLast]; omega, .inr ⟨by simp only [List.length_cons]; omega, (dropLast_sub hs).cons_cons _⟩⟩
end Go.Proofs.Ytecgbhiebaiokaa.G
