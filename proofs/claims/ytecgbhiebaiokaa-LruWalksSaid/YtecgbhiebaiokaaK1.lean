/- Lists of keys and values in memory. -/
import Derived.Test.YtecgbhiebaiokaaH24
import Derived.Maps.AppendAt
namespace Go.Proofs.Ytecgbhiebaiokaa.G
open Go.RowKit Go.Proofs.YtecgbhiebaiokaaW.PrintWords Go.Proofs.YtecgbhiebaiokaaW.PrintLast Go.Proofs.YtecgbhiebaiokaaW.PrintMore
theorem info56 : (Try.prog.info? 56).map (fun i => (i.zero, i.size, i.bytes)) = some (some (.agg #[.int .i64 0, .int .i64 0]), 2, 16) := by kernel_rfl
def pcs : KV → List Value
  | [] => []
  | e :: r => .int .i64 e.1 :: .int .i64 e.2 :: pcs r
theorem pcs_len : ∀ M : KV, (pcs M).length = M.length * 2
  | [] => rfl
  | e :: r => by simp only [pcs, List.length_cons, pcs_len r]; omega
theorem pcs_app : ∀ M N : KV, pcs (M ++ N) = pcs M ++ pcs N
  | [], _ => rfl
  | e :: r, N => by simp only [List.cons_append, pcs, pcs_app r N]
theorem pcs_key : ∀ (M : KV) (j : Nat) (hj : j < M.length), (pcs M)[j * 2]? = some (.int .i64 M[j].1)
  | e :: r, 0, _ => rfl
  | e :: r, j + 1, hj => by
    have := pcs_key r j (by simpa using hj)
    show (pcs (e :: r))[(j + 1) * 2]? = _
    rw [show (j + 1) * 2 = j * 2 + 1 + 1 from by omega]
    simpa [pcs] using this
theorem pcs_val : ∀ (M : KV) (j : Nat) (hj : j < M.length), (pcs M)[j * 2 + 1]? = some (.int .i64 M[j].2)
  | e :: r, 0, _ => rfl
  | e :: r, j + 1, hj => by
    have := pcs_val r j (by simpa using hj)
    show (pcs (e :: r))[(j + 1) * 2 + 1]? = _
    rw [show (j + 1) * 2 + 1 = j * 2 + 1 + 1 + 1 from by omega]
    simpa [pcs] using this
theorem pcs_drop : ∀ (i : Nat) (M : KV), (pcs M).drop (i * 2) = pcs (M.drop i)
  | 0, M => by simp
  | i + 1, [] => by simp [pcs]
  | i + 1, e :: r => by
    rw [show (i + 1) * 2 = i * 2 + 1 + 1 from by omega]
    simpa [pcs] using pcs_drop i r
theorem pcs_take : ∀ (i : Nat) (M : KV), (pcs M).take (i * 2) = pcs (M.take i)
  | 0, M => by simp [pcs]
  | i + 1, [] => by simp [pcs]
  | i + 1, e :: r => by
    rw [show (i + 1) * 2 = i * 2 + 1 + 1 from by omega]
    simpa [pcs] using pcs_take i r
theorem pcs_one (M : KV) : ∀ u ∈ pcs M, u.oneCell' = true := by
  induction M with
  | nil => intro u hu; simp [pcs] at hu
  | cons e r ih =>
    intro u hu
    simp only [pcs, List.mem_cons] at hu
    rcases hu with rfl | rfl | hu
    · rfl
    · rfl
    · exact ih u hu
def OwnP (w : World) (base : Nat) (v : Value) (M : KV) : Prop := w.ownsRow base 56 2 v M.length (pcs M)
def RdC (w : World) (A : Option Addr) (M : KV) : Prop := M.length ≤ 9223372036854775807 ∧ (0 < M.length → ∃ ad, A = some ad ∧ ∀ j u, (pcs M)[j]? = some u → w.cell? (ad.add j) = some u)
theorem OwnP.rd {w : World} {B : Nat} {v : Value} {M : KV} (h : OwnP w B v M) : ∃ A c, v = .slice A M.length c ∧ M.length ≤ c ∧ RdC w A M := by
  have h0 := h
  obtain ⟨hl, ⟨rfl, hn⟩ | ⟨g, cap, cur, rfl, hb, hh, hc, hm, hs, ht⟩⟩ := h
  · exact ⟨none, 0, by rw [hn], by omega, by omega, fun hp => by omega⟩
  · exact ⟨_, cap, rfl, hc, by simp only [maxLen] at hm; omega, fun _ => ⟨_, rfl, World.ownsRow.cells h0 rfl⟩⟩
theorem OwnP.below {w w1 : World} {B : Nat} {v : Value} {M : KV} (h : OwnP w B v M) (hb : Below w.heap.size w w1) : OwnP w1 B v M := pw_own_below h hb
theorem OwnP.chg {w w1 : World} {B : Nat} {v : Value} {l : KV} {S : Nat → Prop} (h : OwnP w B v l) (hc : Chg w w1 S) (hn : ∀ k, v.ownBlock = some k → ¬ S k) : OwnP w1 B v l := by
  obtain ⟨hl, h1 | ⟨g, cap, cur, rfl, hb, hh, hr⟩⟩ := h
  · exact ⟨hl, .inl h1⟩
  · exact ⟨hl, .inr ⟨g, cap, cur, rfl, hb, hc.blk hh (hn g rfl), hr⟩⟩
theorem RdC.below {w w1 : World} {A : Option Addr} {M : KV} (h : RdC w A M) (hb : Below w.heap.size w w1) : RdC w1 A M :=
  ⟨h.1, fun hp => by obtain ⟨ad, e, hc⟩ := h.2 hp; exact ⟨ad, e, fun j u hj => pw_cell_below hb (hc j u hj)⟩⟩
theorem RdC.at_ {w : World} {A : Option Addr} {M : KV} (h : RdC w A M) {j : Nat} (hj : j < M.length) : ∃ ad, A = some ad ∧ w.cell? (ad.add (j * 2)) = some (.int .i64 M[j].1) ∧ w.cell? ⟨(ad.add (j * 2)).block, (ad.add (j * 2)).off + 1, none⟩ = some (.int .i64 M[j].2) := by
  obtain ⟨ad, e, hc⟩ := h.2 (by omega)
  refine ⟨ad, e, hc _ _ (pcs_key M j hj), ?_⟩
  rw [← add_field ad (j * 2) 1 (by omega)]
  exact hc _ _ (pcs_val M j hj)
theorem RdC.take {w : World} {A : Option Addr} {M : KV} (h : RdC w A M) (i : Nat) : RdC w A (M.take i) := by
  refine ⟨by rw [List.length_take]; have := h.1; omega, fun hp => ?_⟩
  obtain ⟨ad, e, hc⟩ := h.2 (by rw [List.length_take] at hp; omega)
  refine ⟨ad, e, fun j u hj => hc j u ?_⟩
  rw [← pcs_take, List.getElem?_take] at hj
  split at hj
  · exact hj
  · cases hj
theorem RdC.drop {w : World} {A : Option Addr} {M : KV} {c : Nat} (h : RdC w A M) (hc : M.length ≤ c) (i : Nat) (hi : i ≤ M.length) : RdC w (if c = i then A else A.map (·.add (i * 2))) (M.drop i) := by
  refine ⟨by rw [List.length_drop]; have := h.1; omega, fun hp => ?_⟩
  rw [List.length_drop] at hp
  obtain ⟨ad, rfl, hcl⟩ := h.2 (by omega)
  rw [if_neg (by omega)]
  refine ⟨ad.add (i * 2), rfl, fun j u hj => ?_⟩
  rw [← pcs_drop, List.getElem?_drop] at hj
  have ha : (ad.add (i * 2)).add j = ad.add (i * 2 + j) := by
    unfold Addr.add
    by_cases h1 : i * 2 = 0 <;> by_cases h2 : j = 0 <;> simp [h1, h2, Nat.add_assoc]
  rw [ha]
  exact hcl _ _ hj
/-- v[:i] and v[i:] -/
theorem run_hi (A : Option Addr) (n c i : Nat) (hi : i ≤ c) (W : World) : (Instr.slice 45 (.slice A n c) none (some (.int .i64 (i : Int))) none).run Try.prog W = .ok (.slice A i c) W := by
  obtain ⟨i0, hi0, hzz⟩ := Option.map_eq_some_iff.1 info56
  simp only [Prod.mk.injEq] at hzz
  have hel : Try.prog.elem 45 = 56 := by simp [Program.elem, Try.underlying45]
  have hu : Try.prog.underlying 45 = some (.slice (Try.prog.elem 45)) := by rw [hel]; exact Try.underlying45
  rw [run_slice_h W 45 A n c hu .i64 (i : Int) (Int.natCast_nonneg _) (by omega), hel]
  have e : (if c = 0 then A else A.map (·.add (0 * 2))) = A := by
    split
    · rfl
    · cases A with
      | none => rfl
      | some ad => simp [Addr.add]
  have hsz : (sizeOf 56).run Try.prog W = .ok 2 W := by simp [sizeOf, typeInfo, hi0, hzz.2.1]
  rw [hsz]
  simp only [sliced, Result.andThen, Int.toNat_natCast]
  rw [e]
  simp
theorem run_lo (A : Option Addr) (n c i : Nat) (hi : i ≤ n) (W : World) : (Instr.slice 45 (.slice A n c) (some (.int .i64 (i : Int))) none none).run Try.prog W = .ok (.slice (if c = i then A else A.map (·.add (i * 2))) (n - i) (c - i)) W := by
  obtain ⟨i0, hi0, hzz⟩ := Option.map_eq_some_iff.1 info56
  simp only [Prod.mk.injEq] at hzz
  have hel : Try.prog.elem 45 = 56 := by simp [Program.elem, Try.underlying45]
  have hu : Try.prog.underlying 45 = some (.slice (Try.prog.elem 45)) := by rw [hel]; exact Try.underlying45
  rw [run_slice_l W 45 A n c hu .i64 (i : Int) (Int.natCast_nonneg _) (by omega), hel]
  have hsz : (sizeOf 56).run Try.prog W = .ok 2 W := by simp [sizeOf, typeInfo, hi0, hzz.2.1]
  rw [hsz]
  simp only [sliced, Result.andThen, Int.toNat_natCast]
/-- append(v, ys...) -/
theorem run_appP {W : World} {B : Nat} {v : Value} {M N : KV} {A : Option Addr} {c : Nat} (HO : OwnP W B v M) (HR : RdC W A N) (hbase : B ≤ W.heap.size) (hl : M.length + N.length ≤ 1000000000000) (ty : TypeId) :
    ∃ v1 w1, (Builtin.append_ #[45, 45] ty #[v, .slice A N.length c]).run Try.prog W = .ok v1 w1 ∧ OwnP w1 B v1 (M ++ N) ∧ W.grownBy w1 v.ownBlock ∧ (v1.ownBlock = v.ownBlock ∨ ∃ b, v1.ownBlock = some b ∧ W.heap.size ≤ b) := by
  obtain ⟨i0, hi, hzz⟩ := Option.map_eq_some_iff.1 info56
  simp only [Prod.mk.injEq] at hzz
  obtain ⟨hz0, hz1, hz2⟩ := hzz
  rcases A with _ | ad
  · have h0 : N.length = 0 := by
      rcases Nat.eq_zero_or_pos N.length with h0 | h0
      · exact h0
      · obtain ⟨ad, h, _⟩ := HR.2 h0
        cases h
    obtain rfl : N = [] := List.eq_nil_of_length_eq_zero h0
    refine ⟨v, W, ?_, by simpa using HO, World.grownBy.refl W _, .inl rfl⟩
    rcases HO.2 with ⟨rfl, hn⟩ | ⟨g, cap, cur, rfl, _, _, hnc, _⟩
    · simp [Builtin.append_, run_underlying Try.underlying45, sizeOf, typeInfo, hi, Builtin.lenOf, Builtin.firstCells]
    · simp [Builtin.append_, run_underlying Try.underlying45, sizeOf, typeInfo, hi, Builtin.lenOf, Builtin.firstCells, hnc, storeCells]
  · have hcells : ∀ j u, (pcs N)[j]? = some u → W.cell? (ad.add j) = some u := by
      intro j u hj
      have hjl : j < (pcs N).length := (List.getElem?_eq_some_iff.1 hj).1
      rw [pcs_len] at hjl
      obtain ⟨ad', he', hc⟩ := HR.2 (by omega)
      injection he' with he'
      subst he'
      exact hc j u hj
    obtain ⟨v1, w1, hr, hown, hg, _, hat⟩ := run_append_own_at (P := Try.prog) W B 45 ty 56 i0 (.agg #[.int .i64 0, .int .i64 0]) 2 16 Try.underlying45 hi hz0 hz1 hz2 (by rfl) (by omega) v M.length (pcs M) HO ad N.length c (pcs N) (pcs_len N) hcells (pcs_one N) (by simp only [maxLen]; omega) (by omega) hbase
    refine ⟨v1, w1, hr, ?_, hg, ?_⟩
    · unfold OwnP
      rw [List.length_append, pcs_app]
      exact hown
    · rcases hat with h | h
      · exact .inl h
      · exact .inr ⟨_, h, Nat.le_refl _⟩
section
variable {ops : Array Oper} {o : Oper} {a : Act} {Q : Exit → Act → World → Prop} {K : Act → World → Prop}
/-- a builtin append of known run as one step of a region that draws -/
theorem step_run_append {W w1 : World} {E : Prop} {u v r : Value} (hgd : o.guard = none) (s x : Operand) (t : TypeId) (ho : o.op = .call { callee := .builtin .append, args := #[s, x], argTypes := #[t, t] })
    (hs : a.eval s = u) (hx : a.eval x = v) (hr : (Builtin.append_ #[t, t] o.type #[u, v]).run Try.prog W = .ok r w1) (h : K (a.put o.dst r) w1) :
    if Region.wanted o (yielded ops a.tmps) = true then Oper.wp Try.prog o a W K Q else E := by
  have hw : Region.wanted o (yielded ops a.tmps) = true := by simp [Region.wanted, hgd]
  rw [if_pos hw]
  unfold Oper.wp execOp
  simp only [ho, resolve, invoke, builtin, Sem.run_bind, Sem.run_pure, Result.andThen_ok, List.map_toArray, List.map_cons, List.map_nil, hs, hx, hr]
  exact h
end
end Go.Proofs.Ytecgbhiebaiokaa.G
