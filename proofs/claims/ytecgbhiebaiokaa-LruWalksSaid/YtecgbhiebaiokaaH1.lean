/- Words for the proofs of layer lru: what a call has changed; a memo in memory. -/
import Derived.Test.YtecgbhiebaiokaaPLruMorex0
import Derived.Test.YtecgbhiebaiokaaG1
import Derived.Lib.Hide
import Derived.Outline
import Derived.Deep.DeepMust
import Derived.Maps.OwnSet
namespace Go.Proofs.Ytecgbhiebaiokaa.G
open Go.RowKit Go.Proofs.YtecgbhiebaiokaaW.PrintWords Go.Proofs.YtecgbhiebaiokaaW.PrintLast Go.Proofs.YtecgbhiebaiokaaW.PrintMore
/-- What a call may have changed: blocks of S, and new ones. -/
structure Chg (w w' : World) (S : Nat → Prop) : Prop where
  os : w'.os = w.os
  tape : w'.tape = w.tape
  output : w'.output = w.output
  size : w.heap.size ≤ w'.heap.size
  block : ∀ k, k < w.heap.size → ¬ S k → w'.heap[k]? = w.heap[k]?
theorem Chg.refl (w : World) (S : Nat → Prop) : Chg w w S := ⟨rfl, rfl, rfl, Nat.le_refl _, fun _ _ _ => rfl⟩
theorem Chg.trans {w w1 w2 : World} {S S1 : Nat → Prop} (h : Chg w w1 S) (k : Chg w1 w2 S1) (hs : ∀ q, q < w.heap.size → S1 q → S q) : Chg w w2 S :=
  ⟨k.os.trans h.os, k.tape.trans h.tape, k.output.trans h.output, Nat.le_trans h.size k.size, fun q hq hn => (k.block q (Nat.lt_of_lt_of_le hq h.size) (fun h1 => hn (hs q hq h1))).trans (h.block q hq hn)⟩
theorem Chg.mono {w w1 : World} {S S1 : Nat → Prop} (h : Chg w w1 S) (hs : ∀ q, q < w.heap.size → S q → S1 q) : Chg w w1 S1 :=
  ⟨h.os, h.tape, h.output, h.size, fun q hq hn => h.block q hq (fun h1 => hn (hs q hq h1))⟩
theorem Chg.of_below {w w1 : World} (h : Below w.heap.size w w1) (S : Nat → Prop) : Chg w w1 S := ⟨h.os, h.tape, h.output, h.size, fun q hq _ => h.block q hq⟩
theorem Chg.of_grown {w w1 : World} {r : Option Nat} (h : w.grownBy w1 r) : Chg w w1 (fun k => some k = r) := ⟨h.os, h.tape, h.output, h.size, fun q hq hn => h.block q hq hn⟩
theorem Chg.drewN {w w1 : World} {S : Nat → Prop} (h : Chg w w1 S) (k : Nat) : Chg w (w1.drewN k) S := ⟨h.os, h.tape, h.output, h.size, h.block⟩
theorem Chg.alloc {w w1 : World} {S : Nat → Prop} (h : Chg w w1 S) (o : Obj) : Chg w (w1.alloc o) S := h.trans (Chg.of_below (below_alloc (Below.refl _ _) o) (fun _ => False)) (fun _ _ h => h.elim)
theorem Chg.set_ {w w1 : World} {S : Nat → Prop} (h : Chg w w1 S) {p : Addr} (hp : S p.block) (u : Value) : Chg w (w1.setCell p u) S :=
  ⟨h.os, h.tape, h.output, by simpa [World.setCell] using h.size, fun q hq hn => by rw [Below.heap_setCell _ _ _ _ (fun e => hn (by rw [e]; exact hp))]; exact h.block q hq hn⟩
/-- seen from elder blocks nothing has changed -/
theorem Chg.below {w w1 : World} {S : Nat → Prop} (h : Chg w w1 S) {B : Nat} (hB : B ≤ w.heap.size) (hs : ∀ q, S q → B ≤ q) : Below B w w1 :=
  ⟨h.os, h.tape, h.output, h.size, fun q hq => h.block q (Nat.lt_of_lt_of_le hq hB) (fun h1 => by have := hs q h1; omega)⟩
theorem Chg.blk {w w1 : World} {S : Nat → Prop} (h : Chg w w1 S) {g : Nat} {o : Obj} (hb : w.heap[g]? = some o) (hn : ¬ S g) : w1.heap[g]? = some o := (h.block g (blk_lt hb) hn).trans hb

/-- a key's type: its values, its types' numbers -/
structure KT (α : Type) where
  val : α → Value
  lit : α → Lit
  ok : α → Prop
  tk : TypeId
  tm : TypeId
  te : TypeId
  tE : TypeId
  tM : TypeId
def ktI : KT Int := ⟨fun k => .int .i64 k, fun k => .int .i64 k, fun k => (Lit.int .i64 k).wf = true, 3, 63, 64, 74, 66⟩
def ktS : KT ByteArray := ⟨fun s => .string s, fun s => .string s.data.toList, fun s => s.size ≤ maxLen, 9, 79, 80, 84, 82⟩
/-- what is known of a key's type -/
structure KL {α : Type} (T : KT α) : Prop where
  keyed : Maps.Keyed Try.prog T.tk
  map : Try.prog.underlying T.tm = some (.map T.tk T.te)
  zero : ∀ w, (zeroValue T.te).run Try.prog w = .ok (.pointer none) w
  key : ∀ k, T.ok k → keyOf Try.prog T.tk (T.val k) = some (T.lit k)
  lit : ∀ k, WideAt.IsKeyLit (T.lit k)
  inj : ∀ k k', T.lit k = T.lit k' → k = k'
  apart : T.tE ≠ T.tM
theorem klI : KL ktI := ⟨Maps.int_keyed Try.underlying3, Try.underlying63, fun w => by rfl, fun k h => Maps.keyOf_int_mk Try.underlying3 h, fun k => by simp [ktI, WideAt.IsKeyLit], fun k k' h => by simpa [ktI] using h, by decide⟩
theorem klS : KL ktS := ⟨Maps.string_keyed Try.underlying9, Try.underlying79, fun w => by rfl, fun k h => WideMaps.keyOf_string_mk Try.underlying9 h, fun k => by simp [ktS, WideAt.IsKeyLit], fun k k' h => by
    have h1 : k.data.toList = k'.data.toList := by simpa [ktS] using h
    exact ByteArray.ext (Array.toList_inj.1 h1), by decide⟩

def ptr : Option Nat → Value
  | none => .pointer none
  | some g => .pointer (some ⟨g, 0, none⟩)
def gAt {α : Type} (L : List (Ent α)) (i : Nat) : Option Nat := (L[i]?).map (·.g)
/-- the one ahead -/
def nwAt {α : Type} (L : List (Ent α)) : Nat → Option Nat
  | 0 => none
  | i + 1 => gAt L i
def lastG {α : Type} (L : List (Ent α)) : Option Nat := nwAt L L.length
section
variable {α : Type} [DecidableEq α]
def lookG (k : α) (L : List (Ent α)) : Option Nat := (L.find? (fun e => e.k == k)).map (·.g)
def R0 : Value → Option (DataW Value × List MemPlace) := fun v => some (.held v, [])
/-- a map in memory that leads from each key to its entry -/
def MapL (T : KT α) (w : World) (b : Nat) (L : List (Ent α)) : Prop :=
  ∃ D : DataW Value, w.ownsMap Try.prog T.tk R0 b L.length D ∧ Maps.size D = L.length ∧ ∀ k, D.atKey (T.lit k) (.held (.pointer none)) = .held (ptr (lookG k L)) ∧ Maps.has D (T.lit k) = has k L
theorem MapL.new (T : KT α) (w : World) : MapL T (w.alloc (.map #[] 0)) w.heap.size [] :=
  ⟨.map [], World.ownsMap_made w Try.prog T.tk R0, rfl, fun _ => ⟨rfl, rfl⟩⟩
theorem MapL.chg {T : KT α} {w w1 : World} {b : Nat} {L : List (Ent α)} {S : Nat → Prop} (h : MapL T w b L) (hc : Chg w w1 S) (hn : ¬ S b) : MapL T w1 b L := by
  obtain ⟨D, ⟨es, clock, hb, hr⟩, hs, hk⟩ := h
  exact ⟨D, ⟨es, clock, hc.blk hb hn, hr⟩, hs, hk⟩
theorem MapL.drewN {T : KT α} {w : World} {b : Nat} {L : List (Ent α)} (h : MapL T w b L) (m : Nat) : MapL T (w.drewN m) b L := h
theorem MapL.lt {T : KT α} {w : World} {b : Nat} {L : List (Ent α)} (h : MapL T w b L) : b < w.heap.size := by
  obtain ⟨D, ho, _⟩ := h
  exact ho.lt
theorem MapL.ne {T : KT α} {w : World} {b g : Nat} {L : List (Ent α)} (h : MapL T w b L) {cs : Array Value} {t : TypeId} {f : Nat × Nat} (hg : w.heap[g]? = some (.cells cs t f)) : g ≠ b := by
  rintro rfl
  obtain ⟨D, ⟨es, clock, hb, _⟩, _⟩ := h
  rw [hb] at hg
  cases hg
/-- the same keys lead to the same entries -/
theorem MapL.same {T : KT α} {w : World} {b : Nat} {L L' : List (Ent α)} (h : MapL T w b L) (hl : L'.length = L.length) (hk : ∀ k, lookG k L' = lookG k L) (hh : ∀ k, has k L' = has k L) : MapL T w b L' := by
  obtain ⟨D, ho, hs, hv⟩ := h
  exact ⟨D, by rw [hl]; exact ho, by rw [hl]; exact hs, fun k => by rw [hk, hh]; exact hv k⟩
/-- m[k] -/
theorem MapL.lookup {T : KT α} (K : KL T) {w : World} {b : Nat} {L : List (Ent α)} (h : MapL T w b L) {k : α} (hk : T.ok k) : (Instr.lookup T.tm (.map (some b)) (T.val k) false).run Try.prog w = .ok (ptr (lookG k L)) w := by
  obtain ⟨D, ho, hs, hv⟩ := h
  obtain ⟨v, ps, hr, he⟩ := ho.lookup K.keyed K.map (K.zero w) (zd := .held (.pointer none)) (zp := []) rfl (K.key k hk)
  rw [(hv k).1] at he
  simp only [R0, Option.some.injEq, Prod.mk.injEq, DataW.held.injEq] at he
  rw [hr, he.1]
/-- len(m) -/
theorem MapL.len {T : KT α} (K : KL T) {w : World} {b : Nat} {L : List (Ent α)} (h : MapL T w b L) (ty : TypeId) : (Builtin.len_ #[T.tm] ty #[.map (some b)]).run Try.prog w = .ok (.int .i64 L.length) w := by
  obtain ⟨D, ho, hs, hv⟩ := h
  rw [ho.len K.map, hs]
omit [DecidableEq α] in
theorem MapL.tight {T : KT α} {w : World} {b n : Nat} {D : DataW Value} (h : w.ownsMap Try.prog T.tk R0 b n D) : w.ownsMap Try.prog T.tk R0 b (Maps.size D) D := by
  obtain ⟨es, clock, hb, F, _, rfl⟩ := h
  exact ⟨es, clock, hb, F, by simp [Maps.size, length_sorted], rfl⟩
/-- m[k] = e, k a new key -/
theorem MapL.store {T : KT α} (K : KL T) {w : World} {b : Nat} {L : List (Ent α)} (h : MapL T w b L) {e : Ent α} (hk : T.ok e.k) (hn : has e.k L = false) (hl : L.length < maxLen) :
    ∃ w', (Instr.mapUpdate T.tm (.map (some b)) (T.val e.k) (ptr (some e.g))).run Try.prog w = .ok () w' ∧ MapL T w' b (e :: L) ∧ Chg w w' (fun q => q = b) := by
  obtain ⟨D, ho, hs, hv⟩ := h
  obtain ⟨w', hr, ho', ht⟩ := ho.store (val := ptr (some e.g)) (d := .held (ptr (some e.g))) (ps := []) K.keyed K.map hl (K.key e.k hk) rfl
  have hsz : Maps.size (D.put (T.lit e.k) (.held (ptr (some e.g)))) = L.length + 1 := by
    rw [Maps.size_put (ho.tidy K.keyed), (hv e.k).2, hn, hs]
    rfl
  refine ⟨w', hr, ⟨_, ho', hsz, fun k => ?_⟩, ?_⟩
  · by_cases he : e.k = k
    · subst he
      rw [Maps.atKey_put_same ho.isMap (K.lit _), Maps.has_put_same ho.isMap (K.lit _)]
      simp [lookG, has]
    · have hne : T.lit k ≠ T.lit e.k := fun h => he (K.inj _ _ h).symm
      rw [Maps.atKey_put_other hne, Maps.has_put_other hne, (hv k).1, (hv k).2]
      simp [lookG, has, he]
  · have hg := ht.grown
    exact (Chg.of_grown hg).mono (fun q _ hq => by simpa using hq)
/-- delete(m, k) -/
theorem MapL.drop {T : KT α} (K : KL T) {w : World} {b : Nat} {L : List (Ent α)} (h : MapL T w b L) {k : α} (hk : T.ok k) (hu : Uniq L) (hh : has k L = true) (ty : TypeId) :
    ∃ w', (Builtin.delete_ #[T.tm, T.tk] ty #[.map (some b), T.val k]).run Try.prog w = .ok (.tuple #[]) w' ∧ MapL T w' b (cutK k L) ∧ Chg w w' (fun q => q = b) := by
  obtain ⟨D, ho, hs, hv⟩ := h
  obtain ⟨w', hr, ho', ht⟩ := ho.drop K.keyed K.map (K.key k hk) ty
  have hl : (cutK k L).length + 1 = L.length := by
    have h1 := at_lt hh
    rw [← erase_cut hu hh, List.length_eraseIdx, if_pos h1]
    omega
  have hsz : Maps.size (D.del (T.lit k)) = (cutK k L).length := by
    have := Maps.size_del (k := T.lit k) (ho.tidy K.keyed)
    rw [(hv k).2, hh, hs] at this
    simp at this
    omega
  refine ⟨w', hr, ⟨_, by rw [← hsz]; exact MapL.tight ho', hsz, fun k' => ?_⟩, (Chg.of_grown ht.grown).mono (fun q _ hq => by simpa using hq)⟩
  by_cases he : k' = k
  · subst he
    rw [Maps.atKey_del_same, Maps.has_del_same]
    have h1 : has k' (cutK k' L) = false := not_has_iff.2 (fun e he => (mem_cut.1 he).2)
    have h2 : lookG k' (cutK k' L) = none := by
      unfold lookG
      rw [Option.map_eq_none_iff, List.find?_eq_none]
      intro e he
      simpa using (mem_cut.1 he).2
    rw [h1, h2]
    exact ⟨rfl, rfl⟩
  · have hne : T.lit k' ≠ T.lit k := fun h => he (K.inj _ _ h)
    rw [Maps.atKey_del_other hne, Maps.has_del_other hne, (hv k').1, (hv k').2]
    have h1 : has k' (cutK k L) = has k' L := by
      rw [Bool.eq_iff_iff, has_iff, has_iff]
      exact ⟨fun ⟨e, h1, h2⟩ => ⟨e, (mem_cut.1 h1).1, h2⟩, fun ⟨e, h1, h2⟩ => ⟨e, mem_cut.2 ⟨h1, by rw [h2]; exact he⟩, h2⟩⟩
    have h2 : lookG k' (cutK k L) = lookG k' L := by
      unfold lookG cutK
      rw [List.find?_filter]
      congr 2
      funext e
      by_cases h3 : e.k = k'
      · simp [h3, he]
      · simp [h3]
    rw [h1, h2]
    exact ⟨rfl, rfl⟩
end
end Go.Proofs.Ytecgbhiebaiokaa.G
