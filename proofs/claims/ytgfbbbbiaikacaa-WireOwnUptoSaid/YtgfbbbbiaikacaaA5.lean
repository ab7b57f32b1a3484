/- The walk of the law WirePuts: it returns true; condition: what is laid down is below 2^47 bytes. -/
import Derived.Test.YtgfbbbbiaikacaaA4
namespace Go.Proofs.Ytgfbbbbiaikacaa.A
open Go.RowKit Go.Proofs.YtgfbbbbiaikacaaW.PrintWords Go.Proofs.YtgfbbbbiaikacaaW.PrintLast Go.Proofs.YtgfbbbbiaikacaaW.PrintMore

/-- one Put in memory -/
def PutAt (w : World) (a : Addr) (p : PutD) : Prop :=
  ∃ A c, w.cell? a = some (.int .i64 p.kind) ∧ w.cell? ⟨a.block, a.off + 1, none⟩ = some (.int .u64 p.u) ∧ w.cell? ⟨a.block, a.off + 2, none⟩ = some (.int .i64 p.i) ∧ w.cell? ⟨a.block, a.off + 3, none⟩ = some (.slice A p.texts.length c) ∧ RdS w A p.texts ∧ PutOk p
theorem PutAt.below {w w1 : World} {a : Addr} {p : PutD} (h : PutAt w a p) (hb : Below w.heap.size w w1) : PutAt w1 a p := by
  obtain ⟨A, c, h0, h1, h2, h3, h4, h5⟩ := h
  exact ⟨A, c, pw_cell_below hb h0, pw_cell_below hb h1, pw_cell_below hb h2, pw_cell_below hb h3, h4.below hb, h5⟩
def PutsRd (w : World) (A : Option Addr) (ps : List PutD) : Prop := ∀ k, (hk : k < ps.length) → ∃ ad, A = some ad ∧ PutAt w (ad.add (k * 4)) ps[k]
def putsB (ps : List PutD) : List Int := ps.flatMap putB
def bulkP : List PutD → Nat
  | [] => 0
  | p :: r => bulkS p.texts + 32 + bulkP r

section
variable {ops : Array Oper} {rest : List Oper} {o : Oper} {a : Act} {Q : Exit → Act → World → Prop}
/-- append(v, ys...), v of the call's own; which block was written. -/
theorem appG {w0 W : World} {B : Nat} (hgd : o.guard = none) (s x : Operand) (ho : o.op = .call { callee := .builtin .append, args := #[s, x], argTypes := #[23, 23] })
    (v : Value) (xs ys : List Int) (A : Option Addr) (c : Nat) (hs : a.eval s = v) (hx : a.eval x = .slice A ys.length c)
    (HO : Hid (Own W B v xs)) (HR : Hid (Rd W A ys)) (HB : Hid (Below B w0 W)) (hbase : B ≤ W.heap.size) (hl : xs.length + ys.length ≤ 140737488355328)
    (h : ∀ v1 w1, Hid (Own w1 B v1 (xs ++ ys)) → Hid (Below B w0 w1) → Hid (W.grownBy w1 v.ownBlock) → wpList Try.prog ops Q rest (a.put o.dst v1) w1) :
    wpList Try.prog ops Q (o :: rest) a W :=
  print_append_row B hgd s x 23 5 .u8 1 ho Try.underlying23 info5 (by omega) v xs ys A ys.length c hs hx HO.out HR.out HB.out hbase (by omega) (fun v1 w1 h1 h2 h3 _ => h v1 w1 h1 h2 h3)
end
/-- what stands all along the comparing -/
def St (w w' : World) (g v : Value) (X : List Int) (b : Nat) (p : PutD) : Prop := Own w' w.heap.size g X ∧ Own w' w.heap.size v X ∧ Below w.heap.size w w' ∧ PutOk p ∧ b < w'.heap.size
theorem St.below {w w' w2 : World} {g v : Value} {X : List Int} {b : Nat} {p : PutD} (h : St w w' g v X b p) (hb : Below w'.heap.size w' w2) : St w w2 g v X b p :=
  ⟨h.1.below hb, h.2.1.below hb, below_step h.2.2.1 hb, h.2.2.2.1, Nat.lt_of_lt_of_le h.2.2.2.2 hb.size⟩
abbrev StC (w w' : World) (G1 G2 : Option Addr) (g1 g2 : Nat) (X : List Int) (b : Nat) (p : PutD) : Prop := w'.cell? ⟨b, 1, none⟩ = some (.int .u64 p.u) ∧ St w w' (.slice G1 X.length g1) (.slice G2 X.length g2) X b p
theorem StC.rd1 {w w' : World} {G1 G2 : Option Addr} {g1 g2 : Nat} {X : List Int} {b : Nat} {p : PutD} (h : StC w w' G1 G2 g1 g2 X b p) : Rd w' G1 X := own_reads' h.2.1
theorem StC.rd2 {w w' : World} {G1 G2 : Option Addr} {g1 g2 : Nat} {X : List Int} {b : Nat} {p : PutD} (h : StC w w' G1 G2 g1 g2 X b p) : Rd w' G2 X := own_reads' h.2.2.1
theorem StC.below {w w' w2 : World} {G1 G2 : Option Addr} {g1 g2 : Nat} {X : List Int} {b : Nat} {p : PutD} (h : StC w w' G1 G2 g1 g2 X b p) (hb : Below w'.heap.size w' w2) : StC w w2 G1 G2 g1 g2 X b p := ⟨pw_cell_below hb h.1, h.2.below hb⟩
theorem StC.drew {w w' : World} {G1 G2 : Option Addr} {g1 g2 : Nat} {X : List Int} {b : Nat} {p : PutD} (h : StC w w' G1 G2 g1 g2 X b p) : StC w w'.drew G1 G2 g1 g2 X b p := ⟨h.1, h.2.1, h.2.2.1, below_drew h.2.2.2.1, h.2.2.2.2⟩
/-- a local Put -/
def Box (w : World) (g : Nat) (p : PutD) (A : Option Addr) (c : Nat) : Prop := w.heap[g]? = some (.cells #[.int .i64 p.kind, .int .u64 p.u, .int .i64 p.i, .slice A p.texts.length c] 27 (0, 0))
theorem Box.cells {w : World} {g : Nat} {p : PutD} {A : Option Addr} {c : Nat} (h : Box w g p A c) :
    w.cell? ⟨g, 0, none⟩ = some (.int .i64 p.kind) ∧ w.cell? ⟨g, 1, none⟩ = some (.int .u64 p.u) ∧ w.cell? ⟨g, 2, none⟩ = some (.int .i64 p.i) ∧ w.cell? ⟨g, 3, none⟩ = some (.slice A p.texts.length c) :=
  ⟨blk_cell h 0, blk_cell h 1, blk_cell h 2, blk_cell h 3⟩
theorem putsB_take (ps : List PutD) (k : Nat) (hk : k < ps.length) : putsB (ps.take (k + 1)) = putsB (ps.take k) ++ putB ps[k] := by
  simp only [putsB]
  rw [List.take_succ_eq_append_getElem hk, List.flatMap_append]
  simp

theorem putB_len (p : PutD) : (putB p).length ≤ bulkS p.texts + 16 := by
  have h1 := enc_len p.u
  have h2 := enc_len (zig p.i)
  have h3 := textsB_len p.texts
  have h4 := enc_len p.texts.length
  have h5 : (boolB (p.u % 2 == 1)).length = 1 := by cases (p.u % 2 == 1) <;> rfl
  unfold putB
  split <;> (try simp only [List.length_append]) <;> omega
theorem putsB_len (ps : List PutD) : (putsB ps).length ≤ bulkP ps := by
  induction ps with
  | nil => simp [putsB, bulkP]
  | cons p r ih =>
    have h : putsB (p :: r) = putB p ++ putsB r := by simp [putsB]
    have := putB_len p
    rw [h, List.length_append, bulkP]
    omega
theorem bulkP_len (ps : List PutD) : ps.length ≤ bulkP ps := by
  induction ps with
  | nil => simp
  | cons p r ih => simp only [List.length_cons, bulkP]; omega
theorem bulkP_at (ps : List PutD) (k : Nat) (hk : k < ps.length) : (putsB (ps.take k)).length + bulkS ps[k].texts + 32 ≤ bulkP ps := by
  have e : ∀ a b : List PutD, bulkP (a ++ b) = bulkP a + bulkP b := by
    intro a b
    induction a with
    | nil => simp [bulkP]
    | cons x r ih => simp only [List.cons_append, bulkP, ih]; omega
  have h := congrArg bulkP (List.take_append_drop k ps)
  rw [e, List.drop_eq_getElem_cons hk, bulkP] at h
  have := putsB_len (ps.take k)
  omega

set_option maxHeartbeats 1000000 in
theorem WirePuts_calls (A : Option Addr) (c : Nat) (ps : List PutD) (w : World) (hr : PutsRd w A ps) (hl : bulkP ps ≤ 140737488000000) :
    Calls Try.prog 3 #[.slice A ps.length c] w fun e w' => e = .returned (.bool true) ∧ Below w.heap.size w w' := by
  have HR := Lib.hid hr
  clear hr
  have hbl := bulkP_len ps
  go_enter Try.func3, Try.ntmps3
  go_wp2_with fail
  go_loopw [3, 4, 9] (fun g v i wr => ∃ (k : Nat), i = .int .i64 k ∧ k ≤ ps.length ∧ Hid (Own wr w.heap.size g (putsB (ps.take k))) ∧ Hid (Own wr w.heap.size v (putsB (ps.take k))) ∧ Hid (Below w.heap.size w wr)) (fun _ _ i _ => ps.length - (intOf i).toNat)
  case atStart => exact ⟨0, rfl, by omega, own_nil _ _ _ _, own_nil _ _ _ _, Below.refl _ _⟩
  case round =>
    obtain ⟨k, rfl, hk, hG, hV, hB⟩ := hrel
    have hs := hB.out.size
    by_cases hlt : k < ps.length
    · obtain ⟨ad, rfl, hPA⟩ := HR.out k hlt
      obtain ⟨A1, c1, q0, q1, q2, q3, hT, hp⟩ := hPA.below hB.out
      clear hPA
      replace hT := Lib.hid hT
      obtain ⟨p, hpk⟩ : ∃ p, p = ps[k] := ⟨_, rfl⟩
      rw [← hpk] at q0 q1 q2 q3 hT hp
      have hbk := bulkP_at ps k hlt
      rw [← hpk] at hbk
      have hpl := putB_len p
      replace hpk := Lib.hid hpk
      obtain ⟨G, gc, rfl, hGr⟩ := own_rd hG.out
      replace hGr := Lib.hid hGr
      go_wp2_with fail
      refine (lay_calls G gc _ p A1 c1 _ (hGr.out.below (below_alloc (Below.refl _ _) _)) hp (hT.out.below (below_alloc (Below.refl _ _) _)) (by omega)).mono ?_
      rintro e w1 ⟨v1, rfl, ho, hb⟩
      have hbx : Box w1 wr.heap.size p A1 c1 := (hb.block wr.heap.size (by simp)).trans (heap_alloc_new wr _)
      have hb1 : Below w.heap.size w w1 := (hB.out.alloc hB.out.size _).trans (hb.mono (by simp; omega))
      have hV1 : Own w1 w.heap.size u4 (putsB (ps.take k)) := (hV.out.below (below_alloc (Below.refl _ _) _)).below hb
      have hT1 : RdS w1 A1 p.texts := (hT.out.below (below_alloc (Below.refl _ _) _)).below hb
      have hdis : v1.ownBlock = none ∨ v1.ownBlock ≠ u4.ownBlock := by
        cases h : v1.ownBlock with
        | none => exact .inl rfl
        | some g => exact .inr fun he => by have h1 := own_base ho g h; have h2 := own_lt hV.out g he.symm; simp at h1; omega
      obtain ⟨q0, q1, q2, q3⟩ := hbx.cells
      have hs1 : wr.heap.size + 1 ≤ w1.heap.size := by have := hb.size; simpa using this
      replace ho := Lib.hid (ho.lower (B' := w.heap.size) (by simp; omega))
      replace hb1 := Lib.hid hb1
      replace hV1 := Lib.hid hV1
      replace hT1 := Lib.hid hT1
      replace hbx := Lib.hid hbx
      replace hdis := Lib.hid hdis
      clear hb hT hV hG hB hGr
      go_wp2_with fail
      refine (told_calls p A1 c1 _ hp hT1.out (by omega)).mono ?_
      rintro e w2 ⟨v2, rfl, ho2, hb2⟩
      obtain ⟨A2, c2, rfl, hr2⟩ := own_rd ho2
      clear ho2
      replace hbx : Box w2 wr.heap.size p A1 c1 := (hb2.block wr.heap.size (by omega)).trans hbx.out
      replace ho := Lib.hid (ho.out.below hb2)
      replace hV1 := Lib.hid (hV1.out.below hb2)
      replace hb1 := Lib.hid (below_step hb1.out hb2)
      have hs2 := hb2.size
      clear hb2 q0 q1 q2 q3
      replace hr2 := Lib.hid hr2
      replace hbx := Lib.hid hbx
      go_wp2_with (at_builtin; go_must (refine appG rfl (.tmp 16) (.tmp 18) rfl u4 (putsB (ps.take k)) (putB p) _ _ rfl rfl hV1 hr2 hb1 hb1.out.size (by omega) ?_); intro v3 w3 ho3 hb3 hg3)
      have hne : some wr.heap.size ≠ u4.ownBlock := own_ne hV1.out hbx.out (by decide)
      replace hbx : Box w3 wr.heap.size p A1 c1 := blk_grown hbx.out hg3.out hne
      replace ho : Own w3 w.heap.size v1 (putsB (ps.take k) ++ putB p) := own_other ho.out hg3.out hdis.out
      obtain ⟨q0, q1, q2, q3⟩ := hbx.cells
      obtain ⟨G1, g1, rfl, hG1⟩ := own_rd ho
      obtain ⟨G2, g2, rfl, hG2⟩ := own_rd ho3.out
      have hst : St w w3 (.slice G1 (putsB (ps.take k) ++ putB p).length g1) (.slice G2 (putsB (ps.take k) ++ putB p).length g2) (putsB (ps.take k) ++ putB p) wr.heap.size p :=
        ⟨ho, ho3.out, hb3.out, hp, by have := hg3.out.size; omega⟩
      clear hG1 hG2 ho ho3 hb3 hg3 hV1 hb1 hr2 hT1 hdis hbx hne q0 q2 q3 HR hp
      obtain ⟨X, hX⟩ : ∃ X, X = putsB (ps.take k) ++ putB p := ⟨_, rfl⟩
      rw [← hX] at hst ⊢
      replace hX := Lib.hid hX
      have hpu := hst.2.2.2.1.u0
      have hpv := hst.2.2.2.1.u1
      go_region_held3 (fun w' => w'.cell? ⟨wr.heap.size, 1, none⟩ = some (.int .u64 p.u) ∧ St w w' (.slice G1 X.length g1) (.slice G2 X.length g2) X wr.heap.size p) (first | exact StC.drew ⟨q1, hst⟩ | assumption) (first | (go_at_call 7; refine (Equal_same G1 G2 g1 g2 X X _ (StC.rd1 (by assumption)) (StC.rd2 (by assumption)) rfl).mono ?_; rintro e w' ⟨rfl, rfl⟩) | (go_at_call 8; refine (Size_calls p.u _ hpu hpv).mono ?_; rintro e w' ⟨rfl, rfl⟩) | (go_at_call 9; refine (Uint_calls p.u _ hpu hpv).mono ?_; rintro e w' ⟨v', rfl, ho', hb'⟩; obtain ⟨A', c', rfl, _⟩ := own_rd ho'; have hS' := StC.below (by assumption) hb'; clear ho' hb'))
      have hs' := hS'
      obtain ⟨_, hso, hsv, hsb, _⟩ := hs'
      replace hso := Lib.hid hso
      replace hsv := Lib.hid hsv
      replace hsb := Lib.hid hsb
      have HT := Lib.hid (putsB_take ps k hlt)
      clear hst hS'
      go_wp2_with fail
      go_roundw
      case rel => exact ⟨k + 1, by go_num, by omega, by rw [HT.out, ← hpk.out, ← hX.out]; exact hso, by rw [HT.out, ← hpk.out, ← hX.out]; exact hsv, hsb⟩
      case measure => simp [intOf]; omega
    · clear HR
      go_wp2_with fail
      refine (Size_calls 300 _ (by omega) (by omega)).mono ?_
      rintro e w' ⟨rfl, rfl⟩
      have e300 : enc 300 = [172, 2] := by decide
      rw [e300]
      replace e300 := Lib.hid e300
      have hlit : Rd (wr.alloc (.cells #[.int .u8 7] 5)) (some ⟨wr.heap.size, 0, none⟩) [7] := by
        have h := own_lit wr wr.heap.size 5 .u8 [7] (Nat.le_refl _) (by simp)
        exact own_reads' h
      replace hlit := Lib.hid hlit
      go_wp2_with fail
      refine (PutUint_calls _ 1 [7] 300 _ hlit.out (by omega) (by omega) (by simp)).mono ?_
      rintro e w1 ⟨v1, rfl, ho, hb⟩
      rw [e300.out] at ho
      obtain ⟨A', c', rfl, hr⟩ := own_rd ho
      have hb1 : Below w.heap.size w w1 := (hB.out.alloc hB.out.size _).trans (hb.mono (by simp; have := hB.out.size; omega))
      have hlit2 : Rd (w1.alloc (.cells #[.int .u8 7, .int .u8 172, .int .u8 2] 5)) (some ⟨w1.heap.size, 0, none⟩) [7, 172, 2] := by
        have h := own_lit w1 w1.heap.size 5 .u8 [7, 172, 2] (Nat.le_refl _) (by simp)
        exact own_reads' h
      replace hlit2 := Lib.hid hlit2
      replace hr := Lib.hid (hr.below (below_alloc (Below.refl _ _) (.cells #[.int .u8 7, .int .u8 172, .int .u8 2] 5)))
      replace hb1 := Lib.hid hb1
      clear ho hb hB hG hV
      go_wp2_with fail
      refine (Equal_same A' _ c' _ [7, 172, 2] [7, 172, 2] _ hr.out hlit2.out rfl).mono ?_
      rintro e w' ⟨rfl, rfl⟩
      go_wp2_with fail
      go_ret
      exact ⟨rfl, hb1.out.alloc hb1.out.size _⟩
end Go.Proofs.Ytgfbbbbiaikacaa.A
