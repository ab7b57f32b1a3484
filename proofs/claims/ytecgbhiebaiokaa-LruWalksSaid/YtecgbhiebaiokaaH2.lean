/- The row of a memo's entries in memory, and what an entry's leaving or coming does to it. -/
import Derived.Test.YtecgbhiebaiokaaH1
namespace Go.Proofs.Ytecgbhiebaiokaa.G
open Go.RowKit Go.Proofs.YtecgbhiebaiokaaW.PrintWords Go.Proofs.YtecgbhiebaiokaaW.PrintLast Go.Proofs.YtecgbhiebaiokaaW.PrintMore
section
variable {α : Type}
/-- each entry's block: whom it names as newer, as older -/
def RowF (T : KT α) (w : World) (L : List (Ent α)) (f b : Nat → Option Nat) : Prop :=
  ∀ j, (hj : j < L.length) → w.heap[L[j].g]? = some (.cells #[T.val L[j].k, .int .i64 L[j].v, ptr (f j), ptr (b j)] T.tE (0, 0))
/-- the memo's own block -/
def MemF (T : KT α) (w : World) (gm gb : Nat) (most : Int) (n o : Option Nat) (h m g : Int) : Prop :=
  w.heap[gm]? = some (.cells #[.int .i64 most, .map (some gb), ptr n, ptr o, .int .i64 h, .int .i64 m, .int .i64 g] T.tM (0, 0))
def upd (f : Nat → Option Nat) (p : Nat) (x : Option Nat) : Nat → Option Nat := fun j => if j = p then x else f j
def GUniq (L : List (Ent α)) : Prop := (L.map (·.g)).Nodup
theorem GUniq.ne {L : List (Ent α)} (h : GUniq L) {i j : Nat} (hi : i < L.length) (hj : j < L.length) (hne : i ≠ j) : L[i].g ≠ L[j].g := by
  intro he
  have := (List.getElem_inj (i := i) (j := j) (h₀ := by simpa using hi) (h₁ := by simpa using hj) h).1 (by simpa using he)
  exact hne this
variable {T : KT α} {w w1 : World} {L : List (Ent α)} {f b : Nat → Option Nat} {gm gb : Nat} {most h m g : Int} {n o : Option Nat}
theorem set_row {w : World} {g : Nat} {t : TypeId} {cs : Array Value} (h : w.heap[g]? = some (.cells cs t (0, 0))) (i : Nat) (u : Value) (cs' : Array Value) (e : cs.setIfInBounds i u = cs') : (w.setCell ⟨g, i, none⟩ u).heap[g]? = some (.cells cs' t (0, 0)) := by
  subst e
  exact blk_set h i u
theorem RowF.set2 (hr : RowF T w L f b) (hu : GUniq L) {p : Nat} (hp : p < L.length) (x : Option Nat) : RowF T (w.setCell ⟨L[p].g, 2, none⟩ (ptr x)) L (upd f p x) b := by
  intro j hj
  by_cases he : j = p
  · subst he
    rw [upd, if_pos rfl]
    exact set_row (hr j hj) 2 _ _ rfl
  · rw [upd, if_neg he]
    exact blk_far (hr j hj) (hu.ne hj hp he) _
theorem RowF.set3 (hr : RowF T w L f b) (hu : GUniq L) {p : Nat} (hp : p < L.length) (x : Option Nat) : RowF T (w.setCell ⟨L[p].g, 3, none⟩ (ptr x)) L f (upd b p x) := by
  intro j hj
  by_cases he : j = p
  · subst he
    rw [upd, if_pos rfl]
    exact set_row (hr j hj) 3 _ _ rfl
  · rw [upd, if_neg he]
    exact blk_far (hr j hj) (hu.ne hj hp he) _
theorem RowF.far (hr : RowF T w L f b) {a : Addr} (ha : ∀ j, (hj : j < L.length) → L[j].g ≠ a.block) (x : Value) : RowF T (w.setCell a x) L f b := fun j hj => blk_far (hr j hj) (ha j hj) _
theorem RowF.drewN (hr : RowF T w L f b) (k : Nat) : RowF T (w.drewN k) L f b := hr
theorem MemF.drewN (hm : MemF T w gm gb most n o h m g) (k : Nat) : MemF T (w.drewN k) gm gb most n o h m g := hm
theorem MemF.far (hm : MemF T w gm gb most n o h m g) {a : Addr} (ha : gm ≠ a.block) (x : Value) : MemF T (w.setCell a x) gm gb most n o h m g := blk_far hm ha _
theorem MemF.set2 (hm : MemF T w gm gb most n o h m g) (x : Option Nat) : MemF T (w.setCell ⟨gm, 2, none⟩ (ptr x)) gm gb most x o h m g := set_row hm 2 _ _ rfl
theorem MemF.set3 (hm : MemF T w gm gb most n o h m g) (x : Option Nat) : MemF T (w.setCell ⟨gm, 3, none⟩ (ptr x)) gm gb most n x h m g := set_row hm 3 _ _ rfl
theorem MemF.ne (hm : MemF T w gm gb most n o h m g) (hr : RowF T w L f b) (ha : T.tE ≠ T.tM) : ∀ j, (hj : j < L.length) → L[j].g ≠ gm := fun j hj => blk_ne (hr j hj) hm ha
theorem RowF.chg {S : Nat → Prop} (hr : RowF T w L f b) (hc : Chg w w1 S) (hn : ∀ e ∈ L, ¬ S e.g) : RowF T w1 L f b := fun j hj => hc.blk (hr j hj) (hn _ (List.getElem_mem hj))
theorem MemF.chg {S : Nat → Prop} (hm : MemF T w gm gb most n o h m g) (hc : Chg w w1 S) (hn : ¬ S gm) : MemF T w1 gm gb most n o h m g := hc.blk hm hn
theorem RowF.cong {f' b' : Nat → Option Nat} (hr : RowF T w L f b) (hf : ∀ j, j < L.length → f j = f' j) (hb : ∀ j, j < L.length → b j = b' j) : RowF T w L f' b' := fun j hj => by rw [← hf j hj, ← hb j hj]; exact hr j hj

/-- a row that stands: each names its neighbours -/
def olAt (L : List (Ent α)) (j : Nat) : Option Nat := gAt L (j + 1)
structure Chain (T : KT α) (w : World) (gm gb : Nat) (most h m g : Int) (L : List (Ent α)) : Prop where
  mem : MemF T w gm gb most (gAt L 0) (lastG L) h m g
  row : RowF T w L (nwAt L) (olAt L)
  gu : GUniq L
theorem gAt_erase (L : List (Ent α)) (i j : Nat) : gAt (L.eraseIdx i) j = if j < i then gAt L j else gAt L (j + 1) := by
  unfold gAt
  rw [List.getElem?_eraseIdx]
  split <;> rfl
theorem gAt_lt {i : Nat} (hi : i < L.length) : gAt L i = some L[i].g := by simp [gAt, hi]
theorem gAt_ge {i : Nat} (hi : L.length ≤ i) : gAt L i = none := by simp [gAt, List.getElem?_eq_none hi]
/-- an entry is taken out -/
theorem Chain.erase {i : Nat} (hi : i < L.length) (hu : GUniq L) (hm : MemF T w gm gb most (if i = 0 then gAt L 1 else gAt L 0) (if i + 1 = L.length then nwAt L i else lastG L) h m g)
    (hr : RowF T w L (upd (upd (nwAt L) (i + 1) (nwAt L i)) i none) (upd (fun j => if j + 1 = i then gAt L (i + 1) else olAt L j) i none)) : Chain T w gm gb most h m g (L.eraseIdx i) := by
  have hl : (L.eraseIdx i).length = L.length - 1 := by rw [List.length_eraseIdx, if_pos hi]
  refine ⟨?_, ?_, ?_⟩
  · have e1 : gAt (L.eraseIdx i) 0 = if i = 0 then gAt L 1 else gAt L 0 := by
      rw [gAt_erase]
      by_cases h0 : i = 0
      · rw [if_pos h0, if_neg (by omega)]
      · rw [if_neg h0, if_pos (by omega)]
    have e2 : lastG (L.eraseIdx i) = if i + 1 = L.length then nwAt L i else lastG L := by
      unfold lastG
      rw [hl]
      obtain ⟨q, hq⟩ : ∃ q, L.length = q + 1 := ⟨L.length - 1, by omega⟩
      rw [hq, Nat.add_sub_cancel]
      by_cases he : i + 1 = q + 1
      · rw [if_pos he]
        obtain rfl : i = q := by omega
        cases i with
        | zero => rfl
        | succ i => show gAt _ i = gAt L i; rw [gAt_erase, if_pos (by omega)]
      · rw [if_neg he]
        cases q with
        | zero => omega
        | succ q => show gAt _ q = gAt L (q + 1); rw [gAt_erase, if_neg (by omega)]
    rw [e1, e2]
    exact hm
  · intro j hj
    rw [hl] at hj
    by_cases hji : j < i
    · have e : (L.eraseIdx i)[j] = L[j] := by rw [List.getElem_eraseIdx]; simp [hji]
      have h1 := hr j (by omega)
      have hn : nwAt (L.eraseIdx i) j = upd (upd (nwAt L) (i + 1) (nwAt L i)) i none j := by
        rw [upd, if_neg (by omega), upd, if_neg (by omega)]
        cases j with
        | zero => rfl
        | succ j => show gAt _ j = gAt L j; rw [gAt_erase, if_pos (by omega)]
      have ho : olAt (L.eraseIdx i) j = upd (fun j => if j + 1 = i then gAt L (i + 1) else olAt L j) i none j := by
        rw [upd, if_neg (by omega)]
        show gAt _ (j + 1) = _
        rw [gAt_erase]
        by_cases h2 : j + 1 = i
        · rw [if_neg (by omega), if_pos h2, h2]
        · rw [if_pos (by omega), if_neg h2]; rfl
      rw [hn, ho, e]
      exact h1
    · have e : (L.eraseIdx i)[j] = L[j + 1] := by rw [List.getElem_eraseIdx]; simp [hji]
      have h1 := hr (j + 1) (by omega)
      have hn : nwAt (L.eraseIdx i) j = upd (upd (nwAt L) (i + 1) (nwAt L i)) i none (j + 1) := by
        rw [upd, if_neg (by omega), upd]
        by_cases h2 : j + 1 = i + 1
        · rw [if_pos h2]
          obtain rfl : j = i := by omega
          cases j with
          | zero => rfl
          | succ j => show gAt _ j = gAt L j; rw [gAt_erase, if_pos (by omega)]
        · rw [if_neg h2]
          cases j with
          | zero => omega
          | succ j => show gAt _ j = gAt L (j + 1); rw [gAt_erase, if_neg (by omega)]
      have ho : olAt (L.eraseIdx i) j = upd (fun j => if j + 1 = i then gAt L (i + 1) else olAt L j) i none (j + 1) := by
        rw [upd, if_neg (by omega), if_neg (by omega)]
        show gAt _ (j + 1) = gAt L (j + 1 + 1)
        rw [gAt_erase, if_neg (by omega)]
      rw [hn, ho, e]
      exact h1
  · unfold GUniq at *
    exact hu.sublist ((List.eraseIdx_sublist L i).map _)
/-- an entry comes in front -/
theorem Chain.cons {e : Ent α} (hm : MemF T w gm gb most (some e.g) (if L.length = 0 then some e.g else lastG L) h m g)
    (he : w.heap[e.g]? = some (.cells #[T.val e.k, .int .i64 e.v, .pointer none, ptr (gAt L 0)] T.tE (0, 0))) (hr : RowF T w L (upd (nwAt L) 0 (some e.g)) (olAt L)) (hu : GUniq L) (hn : ∀ x ∈ L, x.g ≠ e.g) : Chain T w gm gb most h m g (e :: L) := by
  refine ⟨?_, ?_, ?_⟩
  · have e1 : gAt (e :: L) 0 = some e.g := rfl
    have e2 : lastG (e :: L) = if L.length = 0 then some e.g else lastG L := by
      cases L with
      | nil => rfl
      | cons x r => rfl
    rw [e1, e2]
    exact hm
  · intro j hj
    cases j with
    | zero => exact he
    | succ j =>
      have h1 := hr j (by simpa using hj)
      have hn : nwAt (e :: L) (j + 1) = upd (nwAt L) 0 (some e.g) j := by
        cases j with
        | zero => rfl
        | succ j => rw [upd, if_neg (by omega)]; rfl
      rw [hn]
      exact h1
  · refine List.nodup_cons.2 ⟨fun hm => ?_, hu⟩
    obtain ⟨x, hx, hxe⟩ := List.mem_map.1 hm
    exact hn x hx hxe
end
end Go.Proofs.Ytecgbhiebaiokaa.G
