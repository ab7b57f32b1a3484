/- The calls that a law of layer lru is handed, read from memory. -/
import Derived.Test.YtecgbhiebaiokaaH15
import Derived.ProofKit
import Derived.OpenShut
import Derived.JoinedCond
import Derived.Lib.SmallJoins
import Derived.Deep.Slices
import Derived.Carry
import Derived.SizedLaws
namespace Go.Proofs.Ytecgbhiebaiokaa.G
open Go.ChangeShapes Go.WideShapes Go.RowKit Go.Joins Go.Deep Go.Proofs.YtecgbhiebaiokaaW.PrintWords Go.Proofs.YtecgbhiebaiokaaW.PrintLast Go.Proofs.YtecgbhiebaiokaaW.PrintMore
structure ActL where
  kind : Int
  k : Int
  v : Int
  keys : List Int
instance : Inhabited ActL := ⟨⟨0, 0, 0, []⟩⟩
def InI (n : Int) : Prop := -9223372036854775808 ≤ n ∧ n ≤ 9223372036854775807
theorem InI.ok {n : Int} (h : InI n) : ktI.ok n := by
  obtain ⟨h0, h1⟩ := h
  simp only [ktI, Lit.wf, IntKind.min, IntKind.max, IntKind.bits, IntKind.signed]
  simp
  omega
structure ActOk (p : ActL) : Prop where
  kind : InI p.kind
  k : InI p.k
  v : InI p.v
  keys : ∀ x ∈ p.keys, InI x
abbrev KeysRd (w : World) (A : Option Addr) (l : List Int) : Prop := ReadsInt w .i64 A l.length l
/-- one Act in memory -/
def ActX (w : World) (a : Addr) (p : ActL) : Prop :=
  ∃ A c, w.cell? a = some (.int .i64 p.kind) ∧ w.cell? ⟨a.block, a.off + 1, none⟩ = some (.int .i64 p.k) ∧ w.cell? ⟨a.block, a.off + 2, none⟩ = some (.int .i64 p.v) ∧ w.cell? ⟨a.block, a.off + 3, none⟩ = some (.slice A p.keys.length c) ∧ KeysRd w A p.keys ∧ ActOk p ∧ p.keys.length ≤ c
theorem ActX.below {w w1 : World} {a : Addr} {p : ActL} (h : ActX w a p) (hb : Below w.heap.size w w1) : ActX w1 a p := by
  obtain ⟨A, c, h0, h1, h2, h3, h4, h5⟩ := h
  exact ⟨A, c, pw_cell_below hb h0, pw_cell_below hb h1, pw_cell_below hb h2, pw_cell_below hb h3, h4.below hb, h5⟩
def ActsRd (w : World) (A : Option Addr) (ps : List ActL) : Prop := ps.length ≤ 9223372036854775807 ∧ ∀ k, (hk : k < ps.length) → ∃ ad, A = some ad ∧ ActX w (ad.add (k * 4)) ps[k]
theorem ActsRd.below {w w1 : World} {A : Option Addr} {ps : List ActL} (h : ActsRd w A ps) (hb : Below w.heap.size w w1) : ActsRd w1 A ps :=
  ⟨h.1, fun k hk => by obtain ⟨ad, h1, h2⟩ := h.2 k hk; exact ⟨ad, h1, h2.below hb⟩⟩
/-- a list's datum is so long -/
def LenD {H : Type} (n : Nat) (d : DataW H) : Prop := (d = .nil ∧ n = 0) ∨ ∃ E S, d = .slice E S ∧ E.length = n
section
variable {H : Type} {enc : TypeId × Value → H} {w : World} {base : Nat} {spare : Nat → Bool} {held : Bool}
theorem wf_in {n : Int} (h : (Lit.int .i64 n).wf = true) : InI n := by
  simp [Lit.wf, IntKind.min, IntKind.max, IntKind.bits, IntKind.signed] at h
  exact h
/-- keys, read -/
theorem open_keys {fuel : Nat} {cs : List Value} {x : DataW H × List MemPlace} (h : DataW.trod enc Try.prog w base spare held fuel 28 cs = some x) :
    ∃ (l : List Int) (A : Option Addr) (c : Nat), cs = [.slice A l.length c] ∧ l.length ≤ c ∧ c ≤ 9223372036854775807 ∧ KeysRd w A l ∧ LenD l.length x.1 ∧ ∀ z ∈ l, InI z := by
  rcases open_ints Try.underlying28 Try.underlying3 (by kernel_rfl) h with ⟨rfl, rfl⟩ | ⟨a, len, cap, zs, rfl, _, hl, hm, hz, rfl, hc, hwz⟩
  · exact ⟨[], none, 0, rfl, Nat.le_refl _, by omega, ReadsInt.nil _ _, .inl ⟨rfl, rfl⟩, fun x hx => by simp at hx⟩
  · have hlen : len ≤ zs.length := by rw [hz]; split <;> omega
    have hm' : cap ≤ 9223372036854775807 := by simpa [maxLen] using hm
    have hll : (zs.take len).length = len := by rw [List.length_take]; omega
    refine ⟨zs.take len, some a, cap, by rw [hll], by rw [hll]; exact hl, hm', ⟨rfl, by rw [hll]; omega, fun _ => ⟨a, rfl, fun j hj => ?_⟩⟩, .inr ⟨_, _, rfl, by simp [lits]⟩, fun x hx => wf_in (hwz x (List.mem_of_mem_take hx))⟩
    rw [hll] at hj
    rw [hc j (by omega)]
    rw [List.getD_eq_getElem?_getD, List.getD_eq_getElem?_getD, List.getElem?_take_of_lt (by omega)]
/-- an Act, read -/
theorem open_act {fuel : Nat} {cs : List Value} {x : DataW H × List MemPlace} (h : DataW.trod enc Try.prog w base spare held fuel 30 cs = some x) :
    ∃ (p : ActL) (A : Option Addr) (c : Nat), cs = [.int .i64 p.kind, .int .i64 p.k, .int .i64 p.v, .slice A p.keys.length c] ∧ KeysRd w A p.keys ∧ ActOk p ∧ p.keys.length ≤ c := by
  obtain ⟨y0, y1, y2, y3, n, rfl, hl, h0, h1, h2, h3⟩ := trod_struct4 Try.underlying30 h
  have c30 : Try.prog.cellsOf 30 = 4 := by kernel_rfl
  have c3 : Try.prog.cellsOf 3 = 1 := by kernel_rfl
  have c28 : Try.prog.cellsOf 28 = 1 := by kernel_rfl
  rw [c30] at hl
  simp only [c3, c28] at h0 h1 h2 h3
  match cs, hl with
  | [a, b, c, d], _ =>
    simp only [List.drop_zero, List.drop_succ_cons, List.take_succ_cons, List.take_zero] at h0 h1 h2 h3
    obtain ⟨k, e0, rfl, w0⟩ := DataW.trod_int Try.underlying3 h0
    obtain ⟨u, e1, rfl, w1⟩ := DataW.trod_int Try.underlying3 h1
    obtain ⟨i, e2, rfl, w2⟩ := DataW.trod_int Try.underlying3 h2
    obtain ⟨ps, A, c', e3, hc, _, hr, _, hx⟩ := open_keys h3
    simp only [List.cons.injEq, and_true] at e0 e1 e2 e3
    subst e0 e1 e2 e3
    exact ⟨⟨k, u, i, ps⟩, A, c', rfl, hr, ⟨wf_in w0, wf_in w1, wf_in w2, hx⟩, hc⟩
/-- a list of Acts, read -/
theorem open_acts {fuel : Nat} {cs : List Value} {x : DataW H × List MemPlace} (h : DataW.trod enc Try.prog w base spare held fuel 22 cs = some x) :
    ∃ (ps : List ActL) (A : Option Addr) (c : Nat), cs = [.slice A ps.length c] ∧ ActsRd w A ps ∧ LenD ps.length x.1 := by
  have c30 : Try.prog.cellsOf 30 = 4 := by kernel_rfl
  rcases open_slice Try.underlying22 h with ⟨rfl, rfl⟩ | ⟨a, len, cap, m, n, D, Pl, rfl, _, hl, hm, hmm, rfl, hx⟩
  · exact ⟨[], none, 0, rfl, ⟨by simp, fun k hk => absurd hk (by simp)⟩, .inl ⟨rfl, rfl⟩⟩
  · rw [c30] at hx
    have hm' : cap ≤ 9223372036854775807 := by simpa [maxLen] using hm
    have hlm : len ≤ m := by rw [hmm]; split <;> omega
    obtain ⟨f, hf⟩ := choose_lt (α := ActL) (p := fun i p => ActX w (a.add (i * 4)) p) (n := len) (fun i hi => by
      obtain ⟨cs', h1, h2⟩ := hx i (by omega)
      obtain ⟨p, A, c, rfl, hr, hp, hb⟩ := open_act h2
      obtain ⟨_, _, hc⟩ := World.cells?_some h1
      have e : ∀ j, 0 < j → (a.add (i * 4)).add j = ⟨(a.add (i * 4)).block, (a.add (i * 4)).off + j, none⟩ := fun j hj => by
        unfold Addr.add
        split <;> split <;> simp_all
      refine ⟨p, A, c, ?_, ?_, ?_, ?_, hr, hp, hb⟩
      · have := hc 0 (by omega); simpa [Addr.add] using this
      · have := hc 1 (by omega); rw [e 1 (by omega)] at this; simpa using this
      · have := hc 2 (by omega); rw [e 2 (by omega)] at this; simpa using this
      · have := hc 3 (by omega); rw [e 3 (by omega)] at this; simpa using this)
    refine ⟨(List.range len).map f, some a, cap, by simp, ⟨by simp; omega, fun k hk => ⟨a, rfl, ?_⟩⟩, .inr ⟨_, _, rfl, by simp⟩⟩
    simp at hk
    simpa using hf k hk
theorem LenD.sized {ts : List TypeId} {ds : List (DataW H)} (h : (DataW.weightsEach Try.prog ts ds).all (· ≤ reachBytes) = true) {j : Nat} {t e : TypeId} {d : DataW H} {n : Nat} (hd : LenD n d) (ht : ts[j]? = some t) (hj : ds[j]? = some d) (hu : Try.prog.underlying t = some (.slice e)) :
    n * Try.prog.bytesOf e ≤ 140737488351232 := by
  rcases hd with ⟨rfl, rfl⟩ | ⟨E, S, rfl, hn⟩
  · simp
  · have := sized_slice h ht hj hu
    have h1 : E.length * Try.prog.bytesOf e ≤ (E.length + S.length) * Try.prog.bytesOf e := Nat.mul_le_mul_right _ (by omega)
    rw [← hn]
    simp only [reachBytes] at this
    omega
end
theorem own : ownKnob Try.prog.godebug = none := by kernel_rfl
theorem laidOut : laidOutB Try.prog = true := by kernel_rfl
theorem bytes30 : Try.prog.bytesOf 30 = 48 := by kernel_rfl
end Go.Proofs.Ytecgbhiebaiokaa.G
