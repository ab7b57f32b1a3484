/- The walk of the law WireOwn: it returns true; condition: what is laid down is below 2^47 bytes. -/
import Derived.Test.YtgfbbbbiaikacaaB2
namespace Go.Proofs.Ytgfbbbbiaikacaa.B
open Go.RowKit Go.Proofs.Ytgfbbbbiaikacaa.A Go.Proofs.YtgfbbbbiaikacaaW.PrintWords Go.Proofs.YtgfbbbbiaikacaaW.PrintLast Go.Proofs.YtgfbbbbiaikacaaW.PrintMore

/-- where a slice's block lies -/
def In (v : Value) (lo hi : Nat) : Prop := ∀ k, v.ownBlock = some k → lo ≤ k ∧ k < hi
theorem In.of {w : World} {B : Nat} {v : Value} {l : List Int} (h : Own w B v l) : In v B w.heap.size := fun k hk => ⟨own_base h k hk, own_lt h k hk⟩
theorem In.up {v : Value} {a b c : Nat} (h : In v a b) (hc : b ≤ c) : In v a c := fun k hk => ⟨(h k hk).1, Nat.lt_of_lt_of_le (h k hk).2 hc⟩
theorem In.sep {u v : Value} {a b c d : Nat} (h : In u a b) (k : In v c d) (hs : b ≤ c ∨ d ≤ a) : u.ownBlock = none ∨ u.ownBlock ≠ v.ownBlock := by
  cases hu : u.ownBlock with
  | none => exact .inl rfl
  | some q =>
    refine .inr fun he => ?_
    have h1 := h q hu
    have h2 := k q he.symm
    omega
theorem own_prefix {w : World} {B g c : Nat} {xs ys : List Int} (h : Own w B (.slice (some ⟨g, 0, none⟩) (xs ++ ys).length c) (xs ++ ys)) : Own w B (.slice (some ⟨g, 0, none⟩) xs.length c) xs := by
  rcases h.2 with ⟨he, _⟩ | ⟨g', cap, cur, he, hb, hh, hn, hm, hs, ht⟩
  · cases he
  · injection he with h1 h2 h3
    injection h1 with h1
    injection h1 with h1
    subst h1 h3
    refine ⟨by simp [nums], .inr ⟨g, c, cur, rfl, hb, hh, by simp at hn; omega, hm, hs, ?_⟩⟩
    have h4 := congrArg (List.take xs.length) ht
    have h5 : (xs ++ ys).length * 1 = xs.length + ys.length := by simp
    rw [h5, List.take_take, nums_append, Nat.min_eq_left (by omega)] at h4
    rw [Nat.mul_one, h4, List.take_left' (nums_length _ _)]
def l8 : List Int := [1, 2, 3, 4, 5, 6, 7, 8]

theorem room_of {w : World} {B : Nat} {v : Value} {b : List Int} (h : Own w B v ([] ++ b ++ l8)) (hl : b.length ≤ 140737488000000) : ∃ g cap, v = .slice (some ⟨g, 0, none⟩) (b.length + 8) cap ∧ Own w B (.slice (some ⟨g, 0, none⟩) (b ++ l8).length cap) (b ++ l8) ∧
    (∀ W : World, (Instr.slice 23 (.slice (some ⟨g, 0, none⟩) (b.length + 8) cap) none (some (.int .i64 (b.length : Int))) none).run Try.prog W = .ok (.slice (some ⟨g, 0, none⟩) b.length cap) W) ∧
    ∃ A' : Option Addr, (∀ W : World, (Instr.slice 23 (.slice (some ⟨g, 0, none⟩) (b.length + 8) cap) (some (.int .i64 (b.length : Int))) none none).run Try.prog W = .ok (.slice A' 8 (cap - b.length)) W) ∧
      ∀ W : World, Own W B (.slice (some ⟨g, 0, none⟩) (b ++ l8).length cap) (b ++ l8) → Rd W A' l8 := by
  have h8 : ([] ++ b ++ l8).length = b.length + 8 := by simp [l8]
  have h8' : (b ++ l8).length = b.length + 8 := by simp [l8]
  have h' := h
  unfold Own at h'
  rw [h8] at h'
  obtain ⟨g, cap, rfl, hgb, hgl⟩ := h'.form (by omega)
  have hcap : b.length + 8 ≤ cap := own_cap h'
  obtain ⟨i0, hi, hzz⟩ := Option.map_eq_some_iff.1 info5
  simp only [Prod.mk.injEq] at hzz
  obtain ⟨r1, -, -⟩ := print_take_int (k := .u8) 23 5 Try.underlying23 hi hzz.2.1 (some ⟨g, 0, none⟩) cap (b ++ l8) (b.length : Int) (by omega) (by rw [h8']; omega) (by rw [h8']; omega)
  obtain ⟨A', r2, r3⟩ := print_cut_of (P := Try.prog) (Value.int .u8) (0 : Int) 23 5 .i64 Try.underlying23 hi hzz.2.1 (some ⟨g, 0, none⟩) (b.length + 8) cap b.length (by omega)
  refine ⟨g, cap, rfl, by unfold Own; rw [h8']; exact h', fun W => ?_, A', fun W => ?_, fun W hW => ?_⟩
  · have := r1 W
    rw [h8', Int.toNat_natCast, List.take_left' rfl] at this
    exact this
  · have := r2 W
    rw [show b.length + 8 - b.length = 8 from by omega] at this
    exact this
  · have hr := own_reads' hW
    rw [h8'] at hr
    have := r3 W (b ++ l8) hcap hr
    rw [show b.length + 8 - b.length = 8 from by omega, List.drop_left' rfl] at this
    exact this

/-- what stands all along -/
structure Ctx (w W : World) (A0 : Option Addr) (b : List Int) (p : PutD) (A1 : Option Addr) (c1 B g cap : Nat) : Prop where
  bel : Below w.heap.size w W
  rb0 : Rd w A0 b
  rt0 : RdS w A1 p.texts
  bx : Box W w.heap.size p A1 c1
  room : Own W B (.slice (some ⟨g, 0, none⟩) (b ++ l8).length cap) (b ++ l8)
  hB : w.heap.size < B
  gB : B ≤ g
section
variable {w W W' : World} {A0 : Option Addr} {b : List Int} {p : PutD} {A1 : Option Addr} {c1 B g cap : Nat}
theorem Ctx.below (h : Ctx w W A0 b p A1 c1 B g cap) (hb : Below W.heap.size W W') : Ctx w W' A0 b p A1 c1 B g cap :=
  ⟨below_step h.bel hb, h.rb0, h.rt0, (hb.block _ (blk_lt h.bx)).trans h.bx, h.room.below hb, h.hB, h.gB⟩
theorem Ctx.drew (h : Ctx w W A0 b p A1 c1 B g cap) : Ctx w W.drew A0 b p A1 c1 B g cap := ⟨below_drew h.bel, h.rb0, h.rt0, h.bx, h.room, h.hB, h.gB⟩
theorem Ctx.alloc (h : Ctx w W A0 b p A1 c1 B g cap) (o : Obj) : Ctx w (W.alloc o) A0 b p A1 c1 B g cap := h.below (below_alloc (Below.refl _ _) _)
theorem Ctx.rb (h : Ctx w W A0 b p A1 c1 B g cap) : Rd W A0 b := h.rb0.below h.bel
theorem Ctx.rt (h : Ctx w W A0 b p A1 c1 B g cap) : RdS W A1 p.texts := h.rt0.below h.bel
theorem Ctx.mine (h : Ctx w W A0 b p A1 c1 B g cap) : Own W B (.slice (some ⟨g, 0, none⟩) b.length cap) b := own_prefix h.room
theorem Ctx.glt (h : Ctx w W A0 b p A1 c1 B g cap) : g < W.heap.size := own_lt h.room g rfl
/-- a row that lies behind the room's block was written -/
theorem Ctx.grown (h : Ctx w W A0 b p A1 c1 B g cap) {r : Option Nat} (hg : W.grownBy W' r) (hr : ∀ k, r = some k → g < k) : Ctx w W' A0 b p A1 c1 B g cap :=
  ⟨h.bel.grown hg h.bel.size (fun k hk => by have := hr k hk; have := h.hB; have := h.gB; omega), h.rb0, h.rt0, blk_grown h.bx hg (fun e => by have := hr _ e.symm; have := h.hB; have := h.gB; omega),
    own_other h.room hg (.inr fun e => by have := hr g (by rw [← e]; rfl); omega), h.hB, h.gB⟩
theorem Ctx.cells (h : Ctx w W A0 b p A1 c1 B g cap) :
    W.cell? ⟨w.heap.size, 0, none⟩ = some (.int .i64 p.kind) ∧ W.cell? ⟨w.heap.size, 1, none⟩ = some (.int .u64 p.u) ∧ W.cell? ⟨w.heap.size, 2, none⟩ = some (.int .i64 p.i) ∧ W.cell? ⟨w.heap.size, 3, none⟩ = some (.slice A1 p.texts.length c1) := h.bx.cells
end

/-- what stands all along the making of want -/
structure Mk (w w5 W : World) (A0 : Option Addr) (b : List Int) (p : PutD) (A1 : Option Addr) (c1 B g cap : Nat) (va vc : Value) (X : List Int) (N3 N4 : Nat) : Prop where
  ctx : Ctx w W A0 b p A1 c1 B g cap
  oa : Own W N3 va X
  oc : Own W N4 vc X
  bel : Below w5.heap.size w5 W
abbrev MkC (w w5 W : World) (A0 : Option Addr) (b : List Int) (p : PutD) (A1 : Option Addr) (c1 B g cap : Nat) (va vc : Value) (X : List Int) (N3 N4 : Nat) : Prop :=
  W.cell? ⟨w.heap.size, 0, none⟩ = some (.int .i64 p.kind) ∧ W.cell? ⟨w.heap.size, 1, none⟩ = some (.int .u64 p.u) ∧ W.cell? ⟨w.heap.size, 2, none⟩ = some (.int .i64 p.i) ∧ W.cell? ⟨w.heap.size, 3, none⟩ = some (.slice A1 p.texts.length c1) ∧
    Mk w w5 W A0 b p A1 c1 B g cap va vc X N3 N4
section
variable {w w5 W W' : World} {A0 : Option Addr} {b : List Int} {p : PutD} {A1 : Option Addr} {c1 B g cap : Nat} {va vc : Value} {X : List Int} {N3 N4 : Nat}
theorem MkC.of (h : Mk w w5 W A0 b p A1 c1 B g cap va vc X N3 N4) : MkC w w5 W A0 b p A1 c1 B g cap va vc X N3 N4 := ⟨h.ctx.cells.1, h.ctx.cells.2.1, h.ctx.cells.2.2.1, h.ctx.cells.2.2.2, h⟩
theorem MkC.mk' (h : MkC w w5 W A0 b p A1 c1 B g cap va vc X N3 N4) : Mk w w5 W A0 b p A1 c1 B g cap va vc X N3 N4 := h.2.2.2.2
theorem Mk.below (h : Mk w w5 W A0 b p A1 c1 B g cap va vc X N3 N4) (hb : Below W.heap.size W W') : Mk w w5 W' A0 b p A1 c1 B g cap va vc X N3 N4 :=
  ⟨h.ctx.below hb, h.oa.below hb, h.oc.below hb, below_step h.bel hb⟩
theorem Mk.grown (h : Mk w w5 W A0 b p A1 c1 B g cap va vc X N3 N4) {v : Value} {l : List Int} (ho : Own W w5.heap.size v l) (hg : W.grownBy W' v.ownBlock) (ia : In va N3 w5.heap.size) (ic : In vc N4 w5.heap.size) (hw : g < w5.heap.size) : Mk w w5 W' A0 b p A1 c1 B g cap va vc X N3 N4 :=
  ⟨h.ctx.grown hg (fun k hk => Nat.lt_of_lt_of_le hw (own_base ho k hk)), own_other h.oa hg (ia.sep (In.of ho) (.inl (Nat.le_refl _))), own_other h.oc hg (ic.sep (In.of ho) (.inl (Nat.le_refl _))), h.bel.grown hg h.bel.size (own_base ho)⟩
theorem below_of_none (hg : W.grownBy W' none) : Below W.heap.size W W' := ⟨hg.os, hg.tape, hg.output, hg.size, fun k hk => hg.block k hk (by simp)⟩
end
section
variable {ops : Array Oper} {o : Oper} {a : Act} {Q : Exit → Act → World → Prop} {K : Act → World → Prop}
/-- append(v, ys...) as one step of a region that draws its order -/
theorem step_appR {w0 W : World} {B : Nat} {E : Prop} (hgd : o.guard = none) (s x : Operand) (ho : o.op = .call { callee := .builtin .append, args := #[s, x], argTypes := #[23, 23] })
    (v : Value) (xs ys : List Int) (A : Option Addr) (c : Nat) (hs : a.eval s = v) (hx : a.eval x = .slice A ys.length c)
    (HO : Own W B v xs) (HR : Rd W A ys) (HB : Below B w0 W) (hbase : B ≤ W.heap.size) (hl : xs.length + ys.length ≤ 140737488355328)
    (h : ∀ v1 w1, Hid (Own w1 B v1 (xs ++ ys)) → Hid (Below B w0 w1) → Hid (W.grownBy w1 v.ownBlock) → K (a.put o.dst v1) w1) :
    if Region.wanted o (yielded ops a.tmps) = true then Oper.wp Try.prog o a W K Q else E := by
  have hw : Region.wanted o (yielded ops a.tmps) = true := by simp [Region.wanted, hgd]
  rw [if_pos hw]
  obtain ⟨i0, hi, hzz⟩ := Option.map_eq_some_iff.1 info5
  simp only [Prod.mk.injEq] at hzz
  obtain ⟨hz0, hz1, hz2⟩ := hzz
  have fin : ∀ v1 w1, (Builtin.append_ #[23, 23] o.type #[v, .slice A ys.length c]).run Try.prog W = .ok v1 w1 → Own w1 B v1 (xs ++ ys) → W.grownBy w1 v.ownBlock → Oper.wp Try.prog o a W K Q := by
    intro v1 w1 hr h1 hg
    unfold Oper.wp execOp
    simp only [ho, resolve, invoke, builtin, Sem.run_bind, Sem.run_pure, Result.andThen_ok, List.map_toArray, List.map_cons, List.map_nil, hs, hx, hr]
    exact h v1 w1 h1 (HB.grown hg hbase (own_base HO)) hg
  rcases A with _ | ad
  · have h0 : ys.length = 0 := by
      rcases Nat.eq_zero_or_pos ys.length with h0 | h0
      · exact h0
      · obtain ⟨ad, h, _⟩ := HR.2.2 h0
        cases h
    obtain rfl : ys = [] := List.eq_nil_of_length_eq_zero h0
    refine fin v W ?_ (by simpa using HO) (World.grownBy.refl W _)
    rcases HO.2 with ⟨rfl, hn⟩ | ⟨g, cap, cur, rfl, _, _, hnc, _⟩
    · simp [Builtin.append_, run_underlying Try.underlying23, sizeOf, typeInfo, hi, Builtin.lenOf, Builtin.firstCells]
    · simp [Builtin.append_, run_underlying Try.underlying23, sizeOf, typeInfo, hi, Builtin.lenOf, Builtin.firstCells, hnc, storeCells]
  · have hcells : ∀ j u, (nums .u8 ys)[j]? = some u → W.cell? (ad.add j) = some u := by
      intro j u hj
      have hjl : j < ys.length := by
        rcases Nat.lt_or_ge j ys.length with h' | h'
        · exact h'
        · rw [List.getElem?_eq_none (by rw [nums_length]; exact h')] at hj
          cases hj
      obtain ⟨ad', he', hc⟩ := HR.2.2 (by omega)
      injection he' with he'
      subst he'
      rw [hc j hjl]
      simp only [nums, List.getElem?_map, List.getElem?_eq_getElem hjl] at hj
      simp at hj
      subst hj
      simp [List.getD_eq_getElem?_getD, List.getElem?_eq_getElem hjl]
    obtain ⟨v1, w1, hr, hown, hg, _⟩ := run_append_own (P := Try.prog) W B 23 o.type 5 i0 (.int .u8 0) 1 1 Try.underlying23 hi hz0 hz1 hz2 rfl (by omega) v xs.length (nums .u8 xs) HO ad ys.length c (nums .u8 ys) (by simp [nums]) hcells (by intro u hu; simp only [nums, List.mem_map] at hu; obtain ⟨q, _, rfl⟩ := hu; rfl) (by simp only [maxLen]; omega) (by omega) hbase
    refine fin v1 w1 hr ?_ hg
    unfold Own
    rw [List.length_append, nums_append]
    exact hown
end

theorem Tape.grown {w w1 : World} {B g : Nat} {A : Option Addr} {c : Nat} {bs : List Int} {at_ : Int} (h : Tape w B g A c bs at_) {r : Option Nat} (hg : w.grownBy w1 r) (hr : ∀ k, r = some k → k < B ∨ w.heap.size ≤ k) : Tape w1 B g A c bs at_ := by
  have hlt := blk_lt h.1
  refine ⟨blk_grown h.1 hg (fun e => ?_), own_other h.2.1 hg ?_, h.2.2⟩
  · rcases hr g e.symm with h1 | h1
    · have := h.2.2.1; omega
    · omega
  · cases hv : (Value.slice A bs.length c).ownBlock with
    | none => exact .inl rfl
    | some q =>
      refine .inr fun e => ?_
      have h1 := own_base h.2.1 q hv
      have h2 := own_lt h.2.1 q hv
      rcases hr q e.symm with h3 | h3 <;> omega
theorem Tape.grown2 {w w1 : World} {B g N : Nat} {A : Option Addr} {c : Nat} {bs : List Int} {at_ : Int} (h : Tape w B g A c bs at_) {r : Option Nat} (hg : w.grownBy w1 r) (hgN : g < N) (hi : In (.slice A bs.length c) B N) (hr : ∀ k, r = some k → N ≤ k) : Tape w1 B g A c bs at_ := by
  refine ⟨blk_grown h.1 hg (fun e => by have := hr g e.symm; omega), own_other h.2.1 hg ?_, h.2.2⟩
  cases hv : (Value.slice A bs.length c).ownBlock with
  | none => exact .inl rfl
  | some q => exact .inr fun e => by have h1 := hi q hv; have h3 := hr q e.symm; omega
/-- min(max(n, 0), len) -/
theorem clamp (n : Int) (l : Nat) : ∃ (q : Int) (m : Nat), m ≤ l ∧ (∀ W : World, (Builtin.max_ #[3, 3] 3 #[.int .i64 n, .int .i64 0]).run Try.prog W = .ok (.int .i64 q) W) ∧
    ∀ W : World, (Builtin.min_ #[3, 3] 3 #[.int .i64 q, .int .i64 (l : Int)]).run Try.prog W = .ok (.int .i64 (m : Int)) W := by
  refine ⟨mx n 0, (mn (mx n 0) (l : Int)).toNat, by unfold mn mx; split <;> split <;> omega, fun W => ?_, fun W => ?_⟩
  · rw [max_two, max2_int]
    rfl
  · have e : (((mn (mx n 0) (l : Int)).toNat : Nat) : Int) = mn (mx n 0) (l : Int) := by unfold mn mx; split <;> split <;> omega
    rw [min_two, min2_int, e]
    rfl
theorem lit_rd (W : World) (l : List Int) (hl : l.length ≤ 9223372036854775807) : Rd (W.alloc (.cells (nums .u8 l).toArray 5)) (some ⟨W.heap.size, 0, none⟩) l := own_reads' (own_lit W W.heap.size 5 .u8 l (Nat.le_refl _) hl)

set_option maxRecDepth 100000 in
set_option maxHeartbeats 2000000 in
theorem WireOwn_calls (A0 : Option Addr) (c0 : Nat) (b : List Int) (p : PutD) (A1 : Option Addr) (c1 : Nat) (n : Int) (w : World) (hb : Rd w A0 b) (hc0 : b.length ≤ c0) (hp : PutOk p) (hr : RdS w A1 p.texts)
    (hl : b.length + bulkS p.texts ≤ 140737488000000) :
    Calls Try.prog 4 #[.slice A0 b.length c0, .agg #[.int .i64 p.kind, .int .u64 p.u, .int .i64 p.i, .slice A1 p.texts.length c1], .int .i64 n] w fun e w' => e = .returned (.bool true) ∧ Below w.heap.size w w' := by
  have HR := Lib.hid hb
  have HT := Lib.hid hr
  have HR0 := Lib.hid hb
  have HT0 := Lib.hid hr
  clear hb hr
  have hmk : ∀ W, (Instr.makeSlice 23 (.int .i64 0) (.int .i64 ((b.length : Int) + 32))).run Try.prog W = _ := make_run 0 (b.length + 32) (by omega) (by omega)
  obtain ⟨q, m, hml, hmax, hmin⟩ := clamp n b.length
  go_enter Try.func4, Try.ntmps4
  go_wp2_with fail
  refine (alive_calls _).mono ?_
  rintro e w1 ⟨rfl, hb1⟩
  have hbx : Box w1 w.heap.size p A1 c1 := (hb1.block w.heap.size (by simp)).trans (heap_alloc_new w _)
  replace hb1 : Below w.heap.size w w1 := below_step (below_alloc (Below.refl _ _) _) hb1
  have hs1 : w.heap.size < w1.heap.size := blk_lt hbx
  replace HR := Lib.hid (HR.out.below hb1)
  replace HT := Lib.hid (HT.out.below hb1)
  replace hbx := Lib.hid hbx
  replace hb1 := Lib.hid hb1
  have hm0 : Hid (Own (w1.alloc (.cells (madeCells #[.int .u8 0] (b.length + 32)) 5)) w1.heap.size (.slice (some ⟨w1.heap.size, 0, none⟩) 0 (b.length + 32)) []) := made_own w1 w1.heap.size 0 (b.length + 32) (Nat.le_refl _) (by omega) (by omega)
  have hal : Hid (Below w1.heap.size w1 (w1.alloc (.cells (madeCells #[.int .u8 0] (b.length + 32)) 5))) := below_alloc (Below.refl _ _) _
  go_wp2_with (first | ((with_reducible refine gate_builtin (b := .append) (xs := #[.tmp 19, .tmp 20]) rfl ?_); go_must (refine appR rfl (.tmp 19) (.tmp 20) rfl (.slice (some ⟨w1.heap.size, 0, none⟩) 0 (b.length + 32)) [] b A0 c0 rfl rfl hm0 (Lib.hid (HR.out.below hal.out)) hal hal.out.size (by simp; omega) ?_); intro v2 w2 ho2 hb2; have hs2 := hb2.out.size; have hl2 : Hid (Rd (w2.alloc (.cells #[.int .u8 1, .int .u8 2, .int .u8 3, .int .u8 4, .int .u8 5, .int .u8 6, .int .u8 7, .int .u8 8] 5)) (some ⟨w2.heap.size, 0, none⟩) l8) := own_reads' (own_lit w2 w2.heap.size 5 .u8 l8 (Nat.le_refl _) (by simp [l8])); replace ho2 := Lib.hid (ho2.out.below (below_alloc (Below.refl _ _) (.cells #[.int .u8 1, .int .u8 2, .int .u8 3, .int .u8 4, .int .u8 5, .int .u8 6, .int .u8 7, .int .u8 8] 5))); replace hb2 := Lib.hid (below_alloc hb2.out (.cells #[.int .u8 1, .int .u8 2, .int .u8 3, .int .u8 4, .int .u8 5, .int .u8 6, .int .u8 7, .int .u8 8] 5))) | ((with_reducible refine gate_builtin (b := .append) (xs := #[.tmp 21, .tmp 22]) rfl ?_); go_must (refine appR rfl (.tmp 21) (.tmp 22) rfl v2 ([] ++ b) l8 (some ⟨w2.heap.size, 0, none⟩) 8 rfl rfl ho2 hl2 hb2 hb2.out.size (by simp [l8]; omega) ?_); intro v3 w3 ho3 hb3; obtain ⟨g, cap, rfl, hroom, hrun1, A8, hrun2, hrd8⟩ := room_of ho3.out (by omega); clear ho3 ho2 hl2 hm0 hmk hal hb2; replace hrd8 := Lib.hid hrd8; have hc3 : Ctx w w3 A0 b p A1 c1 w1.heap.size g cap := ⟨below_weaken hb1.out hb1.out.size hb3.out, HR0.out, HT0.out, (hb3.out.block w.heap.size hs1).trans hbx.out, hroom, hs1, own_base hroom g rfl⟩; obtain ⟨q0, q1, q2, q3⟩ := hc3.cells; clear hb3 hroom hbx HR HT hb1 HR0 HT0))
  obtain ⟨X, hX⟩ : ∃ X, X = b ++ putB p := ⟨_, rfl⟩
  have hXl : X.length ≤ 140737488200000 := by rw [hX, List.length_append]; have := putB_len p; omega
  have hpl : b.length + (putB p).length ≤ 140737488200000 := by have := putB_len p; omega
  replace hX := Lib.hid hX
  refine (lay_calls (some ⟨g, 0, none⟩) cap b p A1 c1 _ (own_reads' hc3.mine) hp hc3.rt (by omega)).mono ?_
  rw [← hX.out]
  rintro e w4 ⟨va, rfl, oa, b4⟩
  have hc4 := hc3.below b4
  have ia := In.of oa
  have hs4 := b4.size
  have hg3 := hc3.glt
  replace oa := Lib.hid oa
  clear hc3 b4 q0 q1 q2 q3
  obtain ⟨q0, q1, q2, q3⟩ := hc4.cells
  go_wp2_with fail
  refine (lay_calls (some ⟨g, 0, none⟩) cap b p A1 c1 _ (own_reads' hc4.mine) hp hc4.rt (by omega)).mono ?_
  rw [← hX.out]
  rintro e w5 ⟨vc, rfl, oc, b5⟩
  have hc5 := hc4.below b5
  have ic := In.of oc
  have hs5 := b5.size
  replace oa := Lib.hid (oa.out.below b5)
  replace oc := Lib.hid oc
  clear hc4 b5 q0 q1 q2 q3
  obtain ⟨q0, q1, q2, q3⟩ := hc5.cells
  go_wp2_with fail
  have hMk : Mk w w5 w5.drew A0 b p A1 c1 w1.heap.size g cap va vc X w3.heap.size w4.heap.size := ⟨hc5.drew, oa.out, oc.out, below_drew (Below.refl _ _)⟩
  have ia5 := ia.up hs5
  have hg5 : g < w5.heap.size := hc5.glt
  clear q0 q1 q2 q3 oa oc hc5
  go_region_held3 (fun W => W.cell? ⟨w.heap.size, 0, none⟩ = some (.int .i64 p.kind) ∧ W.cell? ⟨w.heap.size, 1, none⟩ = some (.int .u64 p.u) ∧ W.cell? ⟨w.heap.size, 2, none⟩ = some (.int .i64 p.i) ∧ W.cell? ⟨w.heap.size, 3, none⟩ = some (.slice A1 p.texts.length c1) ∧ Mk w w5 W A0 b p A1 c1 w1.heap.size g cap va vc X w3.heap.size w4.heap.size) (first | assumption | exact MkC.of hMk) (first
    | (go_at_call 6; have hS := (by assumption : MkC w w5 _ A0 b p A1 c1 w1.heap.size g cap va vc X w3.heap.size w4.heap.size).mk'; refine (told_calls p A1 c1 _ hp hS.ctx.rt (by omega)).mono ?_; rintro e w6 ⟨vt, rfl, ot, bt⟩; obtain ⟨At, ct, rfl, h37⟩ := own_rd ot; have hS6 := MkC.of (hS.below bt); replace h37 := Lib.hid h37; (try replace h35 := Lib.hid (h35.out.below bt)); clear ot bt hS)
    | (have hS := (by assumption : MkC w w5 _ A0 b p A1 c1 w1.heap.size g cap va vc X w3.heap.size w4.heap.size).mk'; refine step_appR (w0 := w5) (B := w5.heap.size) rfl (.const (.slice none 0 0)) (.tmp 34) rfl (.slice none 0 0) [] b A0 c0 rfl rfl (own_nil _ _ _ _) hS.ctx.rb hS.bel hS.bel.size (by simp; omega) ?_; intro v35 w6 h35 _ hg6; have hS6 := MkC.of (hS.below (below_of_none hg6.out)); (try replace h37 := Lib.hid (h37.out.below (below_of_none hg6.out))); clear hS)
    | (have hS := (by assumption : MkC w w5 _ A0 b p A1 c1 w1.heap.size g cap va vc X w3.heap.size w4.heap.size).mk'; refine step_appR (w0 := w5) (B := w5.heap.size) rfl (.tmp 35) (.tmp 37) rfl v35 ([] ++ b) (putB p) At ct rfl rfl h35.out h37.out hS.bel hS.bel.size (by simp; omega) ?_; intro v38 w8 h38 _ hg8; have hS8 := MkC.of (hS.grown h35.out hg8.out ia5 ic hg5); clear hS h35 h37))
  all_goals
    rw [List.nil_append, ← hX.out] at h38
    have iw := In.of h38.out
    have hw5 := hS8.mk'.bel.size
    obtain ⟨_, _, _, _, hc8, oa8, oc8, _⟩ := hS8
    obtain ⟨Aa, ca, rfl, _⟩ := own_rd oa8
    obtain ⟨Ac, cc, rfl, _⟩ := own_rd oc8
    obtain ⟨Aw, cw, rfl, _⟩ := own_rd h38.out
    replace oa8 := Lib.hid oa8
    replace oc8 := Lib.hid oc8
    clear hMk hg8 hg6
    go_wp2_with fail
    refine (Equal_same Aa Aw ca cw X X _ (own_reads' oa8.out) (own_reads' h38.out) rfl).mono ?_
    rintro e w' ⟨rfl, rfl⟩
    go_wp2_with fail
    refine (Equal_same Ac Aw cc cw X X _ (own_reads' oc8.out) (own_reads' h38.out) rfl).mono ?_
    rintro e w' ⟨rfl, rfl⟩
    go_wp2_with fail
    refine (mark_calls w3.heap.size _ X 170 _ oa8.out (by omega)).mono ?_
    rintro e w9 ⟨rfl, oa9, g9⟩
    have hc9 := hc8.grown g9 (fun k hk => by have := (ia k hk).1; omega)
    have oc9 := own_other oc8.out g9 (ic.sep ia (.inr (Nat.le_refl _)))
    have ow9 := own_other h38.out g9 (iw.sep ia5 (.inr (Nat.le_refl _)))
    have hs9 := g9.size
    replace oa9 := Lib.hid (oa9.below (below_alloc (Below.refl _ _) (.cells #[.int .u8 171, .int .u8 171] 5)))
    replace oc9 := Lib.hid (Own.below oc9 (below_alloc (Below.refl _ _) (.cells #[.int .u8 171, .int .u8 171] 5)))
    replace ow9 := Lib.hid (Own.below ow9 (below_alloc (Below.refl _ _) (.cells #[.int .u8 171, .int .u8 171] 5)))
    replace hc9 := hc9.alloc (.cells #[.int .u8 171, .int .u8 171] 5)
    have hl9 : Hid (Rd (w9.alloc (.cells #[.int .u8 171, .int .u8 171] 5)) (some ⟨w9.heap.size, 0, none⟩) [171, 171]) := lit_rd w9 [171, 171] (by simp)
    have hB9 : Hid (Below w3.heap.size w9 (w9.alloc (.cells #[.int .u8 171, .int .u8 171] 5))) := (below_alloc (Below.refl _ _) _).mono (by omega)
    clear g9 h38 oc8 oa8 hc8 hS6
    go_wp2_with ((with_reducible refine gate_builtin (b := .append) (xs := #[.tmp 51, .tmp 52]) rfl ?_); go_must (refine appG rfl (.tmp 51) (.tmp 52) rfl (.slice Aa X.length ca) (X.map fun _ => 170) [171, 171] (some ⟨w9.heap.size, 0, none⟩) 2 rfl rfl oa9 hl9 hB9 (by have := hB9.out.size; omega) (by simp; omega) ?_); intro v10 w10 _ _ hg10)
    have hc10 := hc9.grown hg10.out (fun k hk => by have := (ia k hk).1; omega)
    have oc10 := own_other oc9.out hg10.out (ic.sep ia (.inr (Nat.le_refl _)))
    have ow10 := own_other ow9.out hg10.out (iw.sep ia5 (.inr (Nat.le_refl _)))
    clear hg10 hB9 hl9 hc9 oa9 oc9 ow9
    go_wp2_with fail
    refine (Equal_same Ac Aw cc cw X X _ (own_reads' oc10) (own_reads' ow10) rfl).mono ?_
    rintro e w' ⟨rfl, rfl⟩
    clear oc10 ow10
    go_wp2_with fail
    refine (Equal_same _ A0 cap c0 b b _ (own_reads' hc10.mine) hc10.rb rfl).mono ?_
    rintro e w' ⟨rfl, rfl⟩
    go_wp2_with fail
    have hl10 : Rd (w10.alloc (.cells #[.int .u8 1, .int .u8 2, .int .u8 3, .int .u8 4, .int .u8 5, .int .u8 6, .int .u8 7, .int .u8 8] 5)) (some ⟨w10.heap.size, 0, none⟩) l8 := lit_rd w10 l8 (by simp [l8])
    replace hc10 := hc10.alloc (.cells #[.int .u8 1, .int .u8 2, .int .u8 3, .int .u8 4, .int .u8 5, .int .u8 6, .int .u8 7, .int .u8 8] 5)
    refine (Equal_same A8 (some ⟨w10.heap.size, 0, none⟩) (cap - b.length) 8 l8 l8 _ (hrd8.out _ hc10.room) hl10 rfl).mono ?_
    clear hl10 hrd8
    generalize w10.alloc (.cells #[.int .u8 1, .int .u8 2, .int .u8 3, .int .u8 4, .int .u8 5, .int .u8 6, .int .u8 7, .int .u8 8] 5) = w11 at hc10 ⊢
    rintro e w' ⟨rfl, rfl⟩
    go_wp2_with fail
    refine (NewReader_calls _ cap b _ (own_reads' hc10.mine) (by omega)).mono ?_
    rintro e w12 ⟨gr, Ar, cr, rfl, t12, hg12, b12⟩
    have hc12 := hc10.below b12
    have hg11 := hc10.glt
    have hgr := t12.2.2.1
    have iT := In.of t12.2.1
    replace t12 := Lib.hid t12
    clear b12 hc10
    go_wp2_with fail
    refine (mark_calls w1.heap.size _ b 172 _ hc12.mine (by omega)).mono ?_
    rintro e w13 ⟨rfl, _, g13⟩
    have hs12 := g13.size
    have t13 := t12.out.grown g13 (fun k hk => by injection hk with hk; simp at hk; omega)
    have b13 : Below w.heap.size w w13 := hc12.bel.grown g13 hc12.bel.size (fun k hk => by injection hk with hk; have := hc12.hB; have := hc12.gB; simp at hk; omega)
    have hB := hc12.hB
    have hgB := hc12.gB
    replace t13 := Lib.hid t13
    replace b13 := Lib.hid b13
    have rb0 := Lib.hid hc12.rb0
    clear g13 t12 hc12 hrun1 hrun2
    go_wp2_with fail
    refine (Raw_calls _ gr Ar cr b 0 (m : Int) _ t13.out (by omega) (by omega) (by omega)).mono ?_
    rintro e w14 ⟨vx, rfl, ox, t14, g14⟩
    have ex : (b.take (0 + (m : Int)).toNat).drop (0 : Int).toNat = b.take m := by rw [show (0 + (m : Int)).toNat = m from by omega]; simp
    rw [ex] at ox
    have b14 : Below w.heap.size w w14 := b13.out.grown g14 b13.out.size (fun k hk => by injection hk with hk; omega)
    have ix := In.of ox
    have hs13 := b13.out.size
    have hs14 := g14.size
    have lt13 := (Array.getElem?_eq_some_iff.1 t13.out.1).1
    obtain ⟨i0, hi, hzz⟩ := Option.map_eq_some_iff.1 info5
    simp only [Prod.mk.injEq] at hzz
    obtain ⟨r1, r1', -⟩ := print_take_int (k := .u8) 23 5 Try.underlying23 hi hzz.2.1 A0 c0 b (m : Int) (by omega) (by omega) hc0
    obtain ⟨A2, r2, r2'⟩ := print_cut_of (P := Try.prog) (Value.int .u8) (0 : Int) 23 5 .i64 Try.underlying23 hi hzz.2.1 A0 b.length c0 m hml
    rw [Int.toNat_natCast] at r1 r1'
    have rt0 : Hid (Rd w A0 (b.take m)) := r1' w rb0.out
    have rd0 : Hid (ReadsInt w .u8 A2 (b.length - m) (b.drop m)) := r2' w b hc0 rb0.out
    obtain ⟨Ax, cx, rfl, rx⟩ := own_rd ox
    replace ox := Lib.hid ox
    replace t14 := Lib.hid t14
    replace rx := Lib.hid rx
    replace b14 := Lib.hid b14
    clear g14 t13 r1' r2' hi hzz
    go_wp2_with fail
    have hlm : (b.take m).length = m := by rw [List.length_take]; omega
    have hq := Equal_same Ax A0 cx c0 (b.take m) (b.take m) w14 rx.out (rt0.out.below b14.out) rfl
    rw [hlm] at hq
    refine hq.mono ?_
    clear hq
    rintro e w' ⟨rfl, rfl⟩
    have ox2 := ox.out
    rw [hlm] at ox2 ix
    clear rt0 rx ox
    go_wp2_with fail
    refine (mark_calls w13.heap.size _ (b.take m) 173 _ ox2 (by omega)).mono ?_
    rintro e w15 ⟨rfl, o15, g15⟩
    have t15 := t14.out.grown2 g15 hg12 iT (fun k hk => by have := (ix k hk).1; omega)
    have b15 : Below w.heap.size w w15 := b14.out.grown g15 b14.out.size (fun k hk => by have := (ix k hk).1; omega)
    have hs15 := g15.size
    replace o15 := Lib.hid (Own.below o15 (below_alloc (Below.refl _ _) (.cells #[.int .u8 174, .int .u8 174, .int .u8 174] 5)))
    replace t15 := t15.below (below_alloc (Below.refl _ _) (.cells #[.int .u8 174, .int .u8 174, .int .u8 174] 5))
    replace b15 := below_step b15 (below_alloc (Below.refl _ _) (.cells #[.int .u8 174, .int .u8 174, .int .u8 174] 5))
    have l15 : Hid (Rd (w15.alloc (.cells #[.int .u8 174, .int .u8 174, .int .u8 174] 5)) (some ⟨w15.heap.size, 0, none⟩) [174, 174, 174]) := lit_rd w15 [174, 174, 174] (by simp)
    have hB15 : Hid (Below w13.heap.size w15 (w15.alloc (.cells #[.int .u8 174, .int .u8 174, .int .u8 174] 5))) := (below_alloc (Below.refl _ _) _).mono (by omega)
    replace t15 := Lib.hid t15
    replace b15 := Lib.hid b15
    clear g15 t14 b14 ox2
    go_wp2_with ((with_reducible refine gate_builtin (b := .append) (xs := #[.tmp 95, .tmp 96]) rfl ?_); go_must (refine appG rfl (.tmp 95) (.tmp 96) rfl (.slice Ax m cx) ((b.take m).map fun _ => 173) [174, 174, 174] (some ⟨w15.heap.size, 0, none⟩) 3 rfl rfl o15 l15 hB15 (by have := hB15.out.size; omega) (by simp; omega) ?_); intro v16 w16 _ _ hg16)
    have t16 := t15.out.grown2 hg16.out hg12 iT (fun k hk => by have := (ix k hk).1; omega)
    have b16 : Below w.heap.size w w16 := b15.out.grown hg16.out b15.out.size (fun k hk => by have := (ix k hk).1; omega)
    replace t16 := Lib.hid t16
    replace b16 := Lib.hid b16
    clear hg16 hB15 l15 o15 t15 b15
    have t16' := t16.out
    rw [Int.zero_add] at t16'
    have esub : IntKind.i64.wrap ((b.length : Int) - (m : Int)) = (b.length : Int) - (m : Int) := by rw [IntKind.wrap_i64]; omega
    have eX : (b.take ((m : Int) + ((b.length : Int) - (m : Int))).toNat).drop (m : Int).toNat = b.drop m := by
      rw [show ((m : Int) + ((b.length : Int) - (m : Int))).toNat = b.length from by omega, List.take_length, Int.toNat_natCast]
    have hld : (b.drop m).length = b.length - m := by simp
    have eat : (b.length : Int) - ((m : Int) + ((b.length : Int) - (m : Int))) = 0 := by omega
    have TR := Lib.hid (Tape.drewN t16' 1)
    have BR := Lib.hid (pw_below_drewN b16.out 1)
    have EX := Lib.hid eX
    have HLD := Lib.hid hld
    have EAT := Lib.hid eat
    have hbl : b.length ≤ 140737488355328 := by omega
    clear t16 t16' b16 eX hld eat hlm iT ix ia ia5 ic iw hXl
    go_region_held3 (fun _ => True) (trivial) (first
      | (go_at_call 14; refine (Raw_calls _ gr Ar cr b (m : Int) ((b.length : Int) - (m : Int)) _ TR.out (by omega) (by omega) (by omega)).mono ?_; rintro e w17 ⟨vy, rfl, oy, t17, g17⟩; rw [EX.out] at oy; obtain ⟨Ay, cy, rfl, ry⟩ := own_rd oy; have b17 : Below w.heap.size w w17 := BR.out.grown g17 BR.out.size (fun k hk => by injection hk with hk; omega); rw [HLD.out]; replace ry := Lib.hid ry; replace t17 := Lib.hid t17; replace b17 := Lib.hid b17; clear g17 oy TR BR)
      | (go_at_call 7; go_must (have hq := Equal_same Ay A2 cy (c0 - m) (b.drop m) (b.drop m) w17 ry.out (show ReadsInt w17 .u8 A2 (b.drop m).length (b.drop m) by rw [HLD.out]; exact rd0.out.below b17.out) rfl); rw [HLD.out] at hq; go_must (refine hq.mono ?_); clear hq; rintro e w' ⟨rfl, rfl⟩)
      | (go_at_call 15; refine (Left_calls gr Ar b.length cr _ _ t17.out.1 (by omega) (by omega) hbl).mono ?_; rw [EAT.out]; rintro e w' ⟨rfl, k, rfl⟩))
    go_wp2
    go_ret
    exact ⟨rfl, pw_below_drewN b17.out _⟩
end Go.Proofs.Ytgfbbbbiaikacaa.B
