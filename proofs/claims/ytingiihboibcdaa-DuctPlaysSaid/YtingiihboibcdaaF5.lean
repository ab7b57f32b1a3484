/- The contract of does: one call on both ducts answers alike. -/
import Derived.Test.YtingiihboibcdaaF4
namespace Go.Proofs.Ytingiihboibcdaa.D
open Go.RowKit Go.Proofs.YtingiihboibcdaaW.PrintWords Go.Proofs.YtingiihboibcdaaW.PrintLast Go.Proofs.YtingiihboibcdaaW.PrintMore
set_option linter.unusedSimpArgs false

/-- the program's duct and the document's, side by side -/
structure Both (w0 W : World) (B gd gb : Nat) (v : Value) (D : DS) (gq : Nat) (vq : Value) (Dq : DS) : Prop where
  bel : Below w0.heap.size w0 W
  le : w0.heap.size ≤ B
  d : Duct W B gd gb v D
  q : RD W B gq vq Dq
  sep : ∀ k, FD gd gb v k → ¬ FQ gq vq k
section
variable {w0 W W1 : World} {B gd gb gq g : Nat} {v v1 vq vq1 : Value} {D D1 Dq Dq1 : DS} {o : Obj}
theorem Both.drewN (h : Both w0 W B gd gb v D gq vq Dq) (k : Nat) : Both w0 (W.drewN k) B gd gb v D gq vq Dq := ⟨pw_below_drewN h.bel k, h.le, h.d.drewN k, h.q.drewN k, h.sep⟩
theorem Both.drew (h : Both w0 W B gd gb v D gq vq Dq) : Both w0 W.drew B gd gb v D gq vq Dq := h.drewN 1
theorem Both.below (h : Both w0 W B gd gb v D gq vq Dq) (hb : Below W.heap.size W W1) (hg : W.heap[g]? = some o ∧ ¬ FD gd gb v g ∧ ¬ FQ gq vq g) : Both w0 W1 B gd gb v D gq vq Dq ∧ W1.heap[g]? = some o ∧ ¬ FD gd gb v g ∧ ¬ FQ gq vq g :=
  ⟨⟨below_step h.bel hb, h.le, h.d.below hb, h.q.below hb, h.sep⟩, (hb.block g (blk_lt hg.1)).trans hg.1, hg.2⟩
theorem Both.stepD (h : Both w0 W B gd gb v D gq vq Dq) (hD : Duct W1 B gd gb v1 D1) (hn : Nx W v v1) (hc : Chg W W1 (FD gd gb v)) (hg : W.heap[g]? = some o ∧ ¬ FD gd gb v g ∧ ¬ FQ gq vq g) : Both w0 W1 B gd gb v1 D1 gq vq Dq ∧ W1.heap[g]? = some o ∧ ¬ FD gd gb v1 g ∧ ¬ FQ gq vq g :=
  ⟨⟨h.bel.trans (hc.below h.bel.size (fun q hq => Nat.le_trans h.le (h.d.fd q hq).1)), h.le, hD, h.q.chg hc (fun k hq hd => h.sep k hd hq), fun k hd hq => h.sep k (FD.nx hn k (h.q.fq k hq).2 hd) hq⟩, hc.blk hg.1 hg.2.1, fun hd => hg.2.1 (FD.nx hn g (blk_lt hg.1) hd), hg.2.2⟩
theorem Both.stepQ (h : Both w0 W B gd gb v D gq vq Dq) (hQ : RD W1 B gq vq1 Dq1) (hn : Nx W vq vq1) (hc : Chg W W1 (FQ gq vq)) (hg : W.heap[g]? = some o ∧ ¬ FD gd gb v g ∧ ¬ FQ gq vq g) : Both w0 W1 B gd gb v D gq vq1 Dq1 ∧ W1.heap[g]? = some o ∧ ¬ FD gd gb v g ∧ ¬ FQ gq vq1 g :=
  ⟨⟨h.bel.trans (hc.below h.bel.size (fun q hq => Nat.le_trans h.le (h.q.fq q hq).1)), h.le, h.d.chg hc (fun k hd hq => h.sep k hd hq), hQ, fun k hd hq => h.sep k hd (FQ.nx hn k (h.d.fd k hd).2 hq)⟩, hc.blk hg.1 hg.2.2, hg.2.1, fun hq => hg.2.2 (FQ.nx hn g (blk_lt hg.1) hq)⟩
end
/-- Turn, Lose, in range or not -/
def turnE (D : DS) (a : Int) : Int := if 0 ≤ a ∧ a < (D.held.length : Int) then 0 else 30
def turnX (D : DS) (a m : Int) : DS := if 0 ≤ a ∧ a < (D.held.length : Int) then turnD D a m else D
def loseE (D : DS) (a n : Int) : Int := if 0 ≤ a ∧ a ≤ (D.held.length : Int) then (if n < 0 then 1 else 0) else 30
def loseM (D : DS) (a n : Int) : Int := if 0 ≤ a ∧ a ≤ (D.held.length : Int) ∧ 0 ≤ n then loseN D a n else 0
def loseX (D : DS) (a n : Int) : DS := if 0 ≤ a ∧ a ≤ (D.held.length : Int) ∧ 0 ≤ n then loseD D a n else D
section
variable (B gd gb gq : Nat) (v : Value) (D : DS) (w : World)
theorem Turn_any (a m : Int) (h : Duct w B gd gb v D) (hct : D.ct + 1 ≤ 9223372036854775807) :
    Calls Try.prog 23 #[.pointer (some ⟨gd, 0, none⟩), .int .i64 a, .int .u8 m] w fun e w' => e = .returned (.int .i64 (turnE D a)) ∧ Duct w' B gd gb v (turnX D a m) ∧ Chg w w' (FD gd gb v) := by
  unfold turnE turnX
  by_cases hr : 0 ≤ a ∧ a < (D.held.length : Int)
  · rw [if_pos hr, if_pos hr]
    exact Turn_good B gd gb v D w a m h hr.1 hr.2 hct
  · rw [if_neg hr, if_neg hr]
    refine (Turn_bad B gd gb v D w a m h (by omega)).mono ?_
    rintro e w' ⟨rfl, rfl⟩
    exact ⟨rfl, h, Chg.refl _ _⟩
theorem RTurn_any (a m : Int) (h : RD w B gq v D) (hct : D.ct + 1 ≤ 9223372036854775807) :
    Calls Try.prog 32 #[.pointer (some ⟨gq, 0, none⟩), .int .i64 a, .int .u8 m] w fun e w' => e = .returned (.int .i64 (turnE D a)) ∧ RD w' B gq v (turnX D a m) ∧ Chg w w' (FQ gq v) := by
  unfold turnE turnX
  by_cases hr : 0 ≤ a ∧ a < (D.held.length : Int)
  · rw [if_pos hr, if_pos hr]
    exact RTurn_good B gq v D w a m h hr.1 hr.2 hct
  · rw [if_neg hr, if_neg hr]
    refine (RTurn_bad B gq v D w a m h (by omega)).mono ?_
    rintro e w' ⟨rfl, rfl⟩
    exact ⟨rfl, h, Chg.refl _ _⟩
theorem Lose_any (a n : Int) (h : Duct w B gd gb v D) (hcl : D.cl + 4194304 ≤ 9223372036854775807) :
    Calls Try.prog 22 #[.pointer (some ⟨gd, 0, none⟩), .int .i64 a, .int .i64 n] w fun e w' => e = .returned (.tuple #[.int .i64 (loseM D a n), .int .i64 (loseE D a n)]) ∧ ∃ v1, Duct w' B gd gb v1 (loseX D a n) ∧ Nx w v v1 ∧ Chg w w' (FD gd gb v) := by
  unfold loseM loseE loseX
  by_cases hr : 0 ≤ a ∧ a ≤ (D.held.length : Int)
  · by_cases hn : 0 ≤ n
    · have hx : 0 ≤ a ∧ a ≤ (D.held.length : Int) ∧ 0 ≤ n := ⟨hr.1, hr.2, hn⟩
      rw [if_pos hx, if_pos hr, if_neg (by omega), if_pos hx]
      exact Lose_good B gd gb v D w a n h hr.1 hr.2 hn hcl
    · have hx : ¬ (0 ≤ a ∧ a ≤ (D.held.length : Int) ∧ 0 ≤ n) := fun h => hn h.2.2
      rw [if_neg hx, if_pos hr, if_pos (by omega), if_neg hx]
      refine (Lose_neg B gd gb v D w a n h hr.1 hr.2 (by omega)).mono ?_
      rintro e w' ⟨rfl, rfl⟩
      exact ⟨rfl, v, h, Nx.refl _ _, Chg.refl _ _⟩
  · have hx : ¬ (0 ≤ a ∧ a ≤ (D.held.length : Int) ∧ 0 ≤ n) := fun h => hr ⟨h.1, h.2.1⟩
    rw [if_neg hx, if_neg hr, if_neg hx]
    refine (Lose_bad B gd gb v D w a n h (by omega)).mono ?_
    rintro e w' ⟨rfl, rfl⟩
    exact ⟨rfl, v, h, Nx.refl _ _, Chg.refl _ _⟩
theorem RLose_any (a n : Int) (h : RD w B gq v D) (hcl : D.cl + 4194304 ≤ 9223372036854775807) :
    Calls Try.prog 33 #[.pointer (some ⟨gq, 0, none⟩), .int .i64 a, .int .i64 n] w fun e w' => e = .returned (.tuple #[.int .i64 (loseM D a n), .int .i64 (loseE D a n)]) ∧ ∃ v1, RD w' B gq v1 (loseX D a n) ∧ Nx w v v1 ∧ Chg w w' (FQ gq v) := by
  unfold loseM loseE loseX
  by_cases hr : 0 ≤ a ∧ a ≤ (D.held.length : Int)
  · by_cases hn : 0 ≤ n
    · have hx : 0 ≤ a ∧ a ≤ (D.held.length : Int) ∧ 0 ≤ n := ⟨hr.1, hr.2, hn⟩
      rw [if_pos hx, if_pos hr, if_neg (by omega), if_pos hx]
      exact RLose_good B gq v D w a n h hr.1 hr.2 hn hcl
    · have hx : ¬ (0 ≤ a ∧ a ≤ (D.held.length : Int) ∧ 0 ≤ n) := fun h => hn h.2.2
      rw [if_neg hx, if_pos hr, if_pos (by omega), if_neg hx]
      refine (RLose_neg B gq v D w a n h hr.1 hr.2 (by omega)).mono ?_
      rintro e w' ⟨rfl, rfl⟩
      exact ⟨rfl, v, h, Nx.refl _ _, Chg.refl _ _⟩
  · have hx : ¬ (0 ≤ a ∧ a ≤ (D.held.length : Int) ∧ 0 ≤ n) := fun h => hr ⟨h.1, h.2.1⟩
    rw [if_neg hx, if_neg hr, if_neg hx]
    refine (RLose_bad B gq v D w a n h (by omega)).mono ?_
    rintro e w' ⟨rfl, rfl⟩
    exact ⟨rfl, v, h, Nx.refl _ _, Chg.refl _ _⟩
theorem RWrite_any (w0 : World) (A0 : Option Addr) (c0 : Nat) (ps : List (List Int)) (h : RD w B gq v D) (hB : w0.heap.size ≤ B) (hb : Below w0.heap.size w0 w) (hci : D.ci + 4194304 ≤ 9223372036854775807) (hp : PartsRd w0 A0 ps) :
    Calls Try.prog 29 #[.pointer (some ⟨gq, 0, none⟩), .slice A0 ps.length c0] w fun e w' => ∃ err, e = .returned (.tuple #[.int .i64 (wroteN D ps), .int .i64 err]) ∧ err = (if D.shut then 91 else 0) ∧ ∃ v1, RD w' B gq v1 (wroteD D ps) ∧ Nx w v v1 ∧ Chg w w' (FQ gq v) := by
  cases hs : D.shut
  · refine (RWrite_calls B gq v D w A0 c0 ps h hs hci (fun W' hc => hp.below (hb.trans (hc.below hb.size (fun q hq => Nat.le_trans hB (h.fq q hq).1))))).mono ?_
    rintro e w' ⟨rfl, v1, h1, h2, h3⟩
    exact ⟨_, by simp only [wroteN, hs]; rfl, rfl, v1, by simpa [wroteD, hs] using h1, h2, h3⟩
  · refine (RWrite_shut B gq v D w A0 ps.length c0 h hs).mono ?_
    rintro e w' ⟨rfl, rfl⟩
    exact ⟨_, by simp only [wroteN, hs]; rfl, rfl, v, by simpa [wroteD, hs] using h, Nx.refl _ _, Chg.refl _ _⟩
end
theorem Write_anyB (w0 W : World) (B gd gb : Nat) (v : Value) (D : DS) (A0 : Option Addr) (c0 : Nat) (ps : List (List Int)) (h : Duct W B gd gb v D) (hB : w0.heap.size ≤ B) (hb : Below w0.heap.size w0 W) (hci : D.ci + 4194304 ≤ 9223372036854775807) (hp : PartsRd w0 A0 ps) :
    Calls Try.prog 8 #[.pointer (some ⟨gd, 0, none⟩), .slice A0 ps.length c0] W fun e w' => ∃ err, e = .returned (.tuple #[.int .i64 (wroteN D ps), .int .i64 err]) ∧ err = (if D.shut then 91 else 0) ∧ ∃ v1, Duct w' B gd gb v1 (wroteD D ps) ∧ Nx W v v1 ∧ Chg W w' (FD gd gb v) := by
  cases hs : D.shut
  · refine (Write_calls B gd gb v D W A0 c0 ps h hs hci (fun W' hc => hp.below (hb.trans (hc.below hb.size (fun q hq => Nat.le_trans hB (h.fd q hq).1))))).mono ?_
    rintro e w' ⟨rfl, v1, h1, h2, h3⟩
    exact ⟨_, by simp only [wroteN, hs]; rfl, rfl, v1, by simpa [wroteD, hs] using h1, h2, h3⟩
  · refine (Write_shut B gd gb v D W A0 ps.length c0 h hs).mono ?_
    rintro e w' ⟨rfl, rfl⟩
    exact ⟨_, by simp only [wroteN, hs]; rfl, rfl, v, by simpa [wroteD, hs] using h, Nx.refl _ _, Chg.refl _ _⟩
theorem Shut_anyB (W : World) (B gd gb : Nat) (v : Value) (D : DS) (h : Duct W B gd gb v D) :
    Calls Try.prog 11 #[.pointer (some ⟨gd, 0, none⟩)] W fun e w' => ∃ err, e = .returned (.int .i64 err) ∧ err = (if D.shut then 91 else 0) ∧ Duct w' B gd gb v { D with shut := true } ∧ Chg W w' (FD gd gb v) := by
  cases hs : D.shut
  · refine (Shut_yes B gd gb v D W h hs).mono ?_
    rintro e w' ⟨rfl, h1, h2⟩
    exact ⟨_, rfl, rfl, h1, h2⟩
  · refine (Shut_no B gd gb v D W h hs).mono ?_
    rintro e w' ⟨rfl, rfl⟩
    have e : ({ D with shut := true } : DS) = D := by cases D; simp_all
    exact ⟨_, rfl, rfl, by rw [e]; exact h, Chg.refl _ _⟩
/-- the counts after so many calls, 4194304 to a call: a byte that comes in and goes out again takes two calls -/
structure CN (D : DS) (n : Int) : Prop where
  eq : D.ci = D.co + D.cl + D.held.length
  ci : 2 * D.ci ≤ D.held.length + n
  ct : 4194304 * D.ct ≤ n
theorem CN.mono {D : DS} {n m : Int} (h : CN D n) (hm : n ≤ m) : CN D m := ⟨h.eq, Int.le_trans h.ci (by omega), Int.le_trans h.ct hm⟩
theorem CN.wrote {D : DS} {n : Int} (h : CN D n) (ok : DOk D) (ps : List (List Int)) : CN (wroteD D ps) (n + 4194304) := by
  have h1 := ok.r1
  have h2 := fill_le D.room ps D.held ok.h1
  obtain ⟨e1, e2, e3⟩ := h
  unfold wroteD
  split
  · exact ⟨e1, by omega, by omega⟩
  · refine ⟨?_, ?_, ?_⟩
    · show D.ci + (((fill D.room D.held ps).length : Int) - D.held.length) = D.co + D.cl + ((fill D.room D.held ps).length : Int)
      omega
    · show 2 * (D.ci + (((fill D.room D.held ps).length : Int) - D.held.length)) ≤ ((fill D.room D.held ps).length : Int) + (n + 4194304)
      omega
    · show 4194304 * D.ct ≤ _
      omega
theorem CN.read {D : DS} {n : Int} (h : CN D n) (ok : DOk D) (a : Int) : CN (readD D a) (n + 4194304) := by
  have h1 := ok.r1
  have h2 := ok.h1
  have h3 := firstN_le D a
  obtain ⟨e1, e2, e3⟩ := h
  refine ⟨?_, ?_, ?_⟩
  · show D.ci = D.co + (firstN D a : Int) + D.cl + ((D.held.drop (firstN D a)).length : Int)
    rw [List.length_drop]
    omega
  · show 2 * D.ci ≤ ((D.held.drop (firstN D a)).length : Int) + (n + 4194304)
    rw [List.length_drop]
    omega
  · show 4194304 * D.ct ≤ _
    omega
theorem CN.turn {D : DS} {n : Int} (h : CN D n) (a m : Int) : CN (turnX D a m) (n + 4194304) := by
  obtain ⟨e1, e2, e3⟩ := h
  unfold turnX
  split
  · refine ⟨?_, ?_, ?_⟩
    · show D.ci = D.co + D.cl + ((D.held.set a.toNat (bits .xor .u8 (rd D.held a) m)).length : Int)
      rw [List.length_set]
      exact e1
    · show 2 * D.ci ≤ ((D.held.set a.toNat (bits .xor .u8 (rd D.held a) m)).length : Int) + (n + 4194304)
      rw [List.length_set]
      omega
    · show 4194304 * (if m = 0 then D.ct else D.ct + 1) ≤ _
      split <;> omega
  · exact ⟨e1, by omega, by omega⟩
theorem CN.lose {D : DS} {n : Int} (h : CN D n) (ok : DOk D) (a k : Int) : CN (loseX D a k) (n + 4194304) := by
  have h1 := ok.r1
  have h2 := ok.h1
  obtain ⟨e1, e2, e3⟩ := h
  unfold loseX
  split
  · rename_i hc
    have h3 : (loseN D a k : Int) ≤ D.held.length - a := by unfold loseN mn; split <;> omega
    have h4 : ((D.held.take a.toNat ++ D.held.drop (a.toNat + loseN D a k)).length : Int) = (D.held.length : Int) - loseN D a k := by
      rw [List.length_append, List.length_take, List.length_drop]
      omega
    refine ⟨?_, ?_, ?_⟩
    · show D.ci = D.co + (D.cl + (loseN D a k : Int)) + ((D.held.take a.toNat ++ D.held.drop (a.toNat + loseN D a k)).length : Int)
      rw [h4]
      omega
    · show 2 * D.ci ≤ ((D.held.take a.toNat ++ D.held.drop (a.toNat + loseN D a k)).length : Int) + (n + 4194304)
      rw [h4]
      omega
    · show 4194304 * D.ct ≤ _
      omega
  · exact ⟨e1, by omega, by omega⟩
theorem CN.shut {D : DS} {n : Int} (h : CN D n) : CN { D with shut := true } n := ⟨h.eq, h.ci, h.ct⟩
theorem CN.bounds {D : DS} {n : Int} (h : CN D n) (ok : DOk D) (hn : n ≤ 12400000000000000000) : D.ci + 4194304 ≤ 9223372036854775807 ∧ D.co + 4194304 ≤ 9223372036854775807 ∧ D.ct + 1 ≤ 9223372036854775807 ∧ D.cl + 4194304 ≤ 9223372036854775807 := by
  obtain ⟨e1, e2, e3⟩ := h
  have h1 := ok.r1
  have h2 := ok.h1
  have h3 := ok.co0
  have h4 := ok.cl0
  refine ⟨?_, ?_, ?_, ?_⟩ <;> omega

set_option maxRecDepth 100000 in
set_option maxHeartbeats 8000000 in
theorem does_calls (w0 w : World) (gd gb gq : Nat) (v vq : Value) (D : DS) (p : ActD) (A1 : Option Addr) (c1 : Nat) (n : Int) (h : Both w0 w w0.heap.size gd gb v D gq vq D) (hN : CN D n) (hn : n ≤ 12400000000000000000) (hP : PartsRd w0 A1 p.parts) :
    Calls Try.prog 17 #[.pointer (some ⟨gd, 0, none⟩), .pointer (some ⟨gq, 0, none⟩), .agg #[.int .i64 p.kind, .slice A1 p.parts.length c1, .int .i64 p.a, .int .i64 p.b]] w fun e w' => e = .returned (.bool true) ∧ ∃ v1 vq1 D1, Both w0 w' w0.heap.size gd gb v1 D1 gq vq1 D1 ∧ CN D1 (n + 4194304) := by
  obtain ⟨B, hBe⟩ : ∃ B, B = w0.heap.size := ⟨_, rfl⟩
  obtain ⟨hci, hco, hct, hcl⟩ := hN.bounds h.d.ok hn
  have HN := Lib.hid hN
  have HP := Lib.hid hP
  have bA := below_alloc (Below.refl _ w) (.cells #[.int .i64 p.kind, .slice A1 p.parts.length c1, .int .i64 p.a, .int .i64 p.b] 31)
  have hbel := h.bel
  have HBel := Lib.hid (below_step hbel bA)
  obtain ⟨W, hW⟩ : ∃ W, W = w.alloc (.cells #[.int .i64 p.kind, .slice A1 p.parts.length c1, .int .i64 p.a, .int .i64 p.b] 31) := ⟨_, rfl⟩
  have hg : W.heap[w.heap.size]? = some (.cells #[.int .i64 p.kind, .slice A1 p.parts.length c1, .int .i64 p.a, .int .i64 p.b] 31 (0, 0)) ∧ ¬ FD gd gb v w.heap.size ∧ ¬ FQ gq vq w.heap.size := ⟨by rw [hW]; exact heap_alloc_new _ _, fun hf => by have := (h.d.fd _ hf).2; omega, fun hf => by have := (h.q.fq _ hf).2; omega⟩
  have hB : Both w0 W B gd gb v D gq vq D := by rw [hW, hBe]; exact ⟨below_step h.bel bA, Nat.le_refl _, h.d.below bA, h.q.below bA, h.sep⟩
  rw [← hW] at HBel
  rw [← hBe]
  have q0 := blk_cell hg.1 0
  have q1 := blk_cell hg.1 1
  have q2 := blk_cell hg.1 2
  have q3 := blk_cell hg.1 3
  simp only [List.getElem?_toArray, List.getElem?_cons_zero, List.getElem?_cons_succ] at q0 q1 q2 q3
  obtain ⟨got, hgot⟩ : ∃ got, got = D.held.take (firstN D p.a) := ⟨_, rfl⟩
  clear h hN hP hbel bA
  go_enter Try.func17, Try.ntmps17
  go_wp2_with fail
  all_goals rw [← hW]
  all_goals clear hW
  all_goals (have hok := Lib.hid hB.d.ok; have hBl : w0.heap.size ≤ B := Nat.le_of_eq hBe.symm)
  · refine (Write_anyB w0 W B gd gb v D A1 c1 p.parts hB.d hBl HBel.out hci HP.out).mono ?_
    rintro e w3 ⟨err, rfl, he1, v1, hD1, hn1, hc1⟩
    obtain ⟨hB2, hg2⟩ := hB.stepD hD1 hn1 hc1 hg
    have HBel2 := Lib.hid (HBel.out.trans (hc1.below HBel.out.size (fun q hq => Nat.le_trans hBl (hB.d.fd q hq).1)))
    have q1' := blk_cell hg2.1 1
    simp only [List.getElem?_toArray, List.getElem?_cons_zero, List.getElem?_cons_succ] at q1'
    have hcn := Lib.hid (HN.out.wrote hok.out p.parts)
    have hRW := RWrite_any B gq vq D w3 w0 A1 c1 p.parts hB2.q hBl HBel2.out hci HP.out
    replace he1 := Lib.hid he1
    generalize wroteN D p.parts = nn at *
    generalize wroteD D p.parts = D1 at *
    clear hg hB hD1 hn1 hc1 q0 q1 q2 q3
    go_wp2_with fail
    refine hRW.mono ?_
    clear hRW
    rintro e w4 ⟨err2, rfl, he2, vq1, hQ1, hn2, hc2⟩
    obtain rfl : err2 = err := by rw [he2, he1.out]
    obtain ⟨hB3, -⟩ := hB2.stepQ hQ1 hn2 hc2 hg2
    replace hB3 := Lib.hid hB3
    clear he1 he2 hB2 hg2 hQ1 hn2 hc2 q1'
    go_wp2_with fail
    go_ret
    exact ⟨by simp, v1, vq1, D1, hB3.out, hcn.out⟩
  · have hcn := Lib.hid (HN.out.read hok.out p.a)
    refine start_ (n := 10) (S := fun w' => w'.cell? ⟨w.heap.size, 2, none⟩ = some (.int .i64 p.a)) (ds := []) #[false, false, false, false, false, false, false, false, false, false] (by kernel_rfl) rfl rfl (q2) (fun hHeld => ?_)
    refine pure_ (i := 0) (N := some 46) (v := ?_) (a' := ?_) #[true, false, false, false, false, false, false, false, false, false] rfl rfl (by kernel_rfl) (fun _ _ _ h => h) (Or.inl ⟨by rfl, ?_⟩) ?_ ?_
    rotate_left
    · intro w'
      go_simp
      with_reducible rfl
    rotate_left
    · simp only [Act.put, List.setIfInBounds_toArray, List.set_cons_zero, List.set_cons_succ, i64_w, i32_w]
      rfl
    refine pure_ (i := 1) (N := some 47) (v := ?_) (a' := ?_) #[true, true, false, false, false, false, false, false, false, false] rfl rfl (by kernel_rfl) (fun _ _ _ h => h) (Or.inl ⟨by rfl, ?_⟩) ?_ ?_
    rotate_left
    · intro w'
      go_simp
      with_reducible rfl
    rotate_left
    · simp only [Act.put, List.setIfInBounds_toArray, List.set_cons_zero, List.set_cons_succ, i64_w, i32_w]
      rfl
    refine pure_ (i := 4) (N := some 50) (v := ?_) (a' := ?_) #[true, true, false, false, true, false, false, false, false, false] rfl rfl (by kernel_rfl) (fun _ _ _ h => h) (Or.inl ⟨by rfl, ?_⟩) ?_ ?_
    rotate_left
    · intro w'
      go_simp
      with_reducible rfl
    rotate_left
    · simp only [Act.put, List.setIfInBounds_toArray, List.set_cons_zero, List.set_cons_succ, i64_w, i32_w]
      rfl
    refine pure_ (i := 5) (N := some 51) (v := ?_) (a' := ?_) #[true, true, false, false, true, true, false, false, false, false] rfl rfl (by kernel_rfl) (fun _ _ _ h => h) (Or.inl ⟨by rfl, ?_⟩) ?_ ?_
    rotate_left
    · intro w'
      go_simp
      with_reducible rfl
    rotate_left
    · simp only [Act.put, List.setIfInBounds_toArray, List.set_cons_zero, List.set_cons_succ, i64_w, i32_w]
      rfl
    refine take_ (i := 2) (N := some 48) (v := ?_) (a' := ?_) #[true, true, true, false, true, true, false, false, false, false] rfl rfl (by kernel_rfl) (fun _ _ _ h => h) (Or.inl ⟨by rfl, ?_⟩) hHeld ?_ ?_
    rotate_left
    · intro w' s0
      go_simp
      with_reducible rfl
    rotate_left
    · simp only [Act.put, List.setIfInBounds_toArray, List.set_cons_zero, List.set_cons_succ, i64_w, i32_w]
      rfl
    refine take_ (i := 6) (N := some 52) (v := ?_) (a' := ?_) #[true, true, true, false, true, true, true, false, false, false] rfl rfl (by kernel_rfl) (fun _ _ _ h => h) (Or.inl ⟨by rfl, ?_⟩) hHeld ?_ ?_
    rotate_left
    · intro w' s0
      go_simp
      with_reducible rfl
    rotate_left
    · simp only [Act.put, List.setIfInBounds_toArray, List.set_cons_zero, List.set_cons_succ, i64_w, i32_w]
      rfl
    refine one_ (i := 3) (N := some 49) #[true, true, true, true, true, true, true, false, false, false] rfl rfl (by kernel_rfl) (by decide) (fun K hK => ?_)
    refine goes_ Try.func10 (by kernel_rfl) rfl #[.pointer (some ⟨gd, 0, none⟩), .int .i64 p.a] (by rfl) rfl rfl (by simp only [List.map_toArray, List.map_cons, List.map_nil]; rfl) ?_
    with_reducible refine (Read_calls B gd gb v D _ p.a (hB.drew.d) hco).mono ?_
    rintro e w3 ⟨vr, rfl, hor, v1, hD1, hn1, hc1⟩
    refine ⟨_, rfl, ?_⟩
    obtain ⟨hB2, hg2⟩ := hB.drew.stepD hD1 hn1 hc1 hg
    have hs3 := hc1.size
    rw [← hgot] at hor
    clear hHeld hD1 hn1
    refine hK.out _ _ (blk_cell hg2.1 2) (fun hHeld => ?_)
    clear hK K
    refine norm_ (a' := ?_) ?_ ?_
    rotate_left
    · show Act.put _ (some 49) _ = _
      simp only [Act.put, List.setIfInBounds_toArray, List.set_cons_zero, List.set_cons_succ, i64_w, i32_w]
      rfl
    refine one_ (i := 7) (N := some 53) #[true, true, true, true, true, true, true, true, false, false] rfl rfl (by kernel_rfl) (by decide) (fun K hK => ?_)
    refine goes_ Try.func30 (by kernel_rfl) rfl #[.pointer (some ⟨gq, 0, none⟩), .int .i64 p.a] (by rfl) rfl rfl (by simp only [List.map_toArray, List.map_cons, List.map_nil]; rfl) ?_
    with_reducible refine (RRead_calls B gq vq D _ p.a hB2.q hco).mono ?_
    rintro e w4 ⟨vs, rfl, hos, vq1, hQ1, hn2, hc2⟩
    refine ⟨_, rfl, ?_⟩
    obtain ⟨hB3, hg3⟩ := hB2.stepQ hQ1 hn2 hc2 hg2
    rw [← hgot] at hos
    have hor2 := hc2.own hor (fun k hk hf => by have h1 := own_base hor k hk; have h2 := (hB.q.fq k hf).2; exact absurd h1 (Nat.not_le_of_lt h2))
    obtain ⟨Ar, cr, rfl, hrr⟩ := own_rd hor2
    obtain ⟨As, cs, rfl, hrs⟩ := own_rd hos
    replace hrr := Lib.hid hrr
    replace hrs := Lib.hid hrs
    clear hHeld hQ1 hn2 hor hos hor2 hc1 hc2
    refine hK.out _ _ (blk_cell hg3.1 2) (fun hHeld => ?_)
    clear hK K
    refine norm_ (a' := ?_) ?_ ?_
    rotate_left
    · show Act.put _ (some 53) _ = _
      simp only [Act.put, List.setIfInBounds_toArray, List.set_cons_zero, List.set_cons_succ, i64_w, i32_w]
      rfl
    refine one_ (i := 8) (N := some 54) #[true, true, true, true, true, true, true, true, true, false] rfl rfl (by kernel_rfl) (by decide) (fun K hK => ?_)
    refine goes_ Try.func13 (by kernel_rfl) rfl #[.slice Ar got.length cr, .slice As got.length cs] (by rfl) rfl rfl (by simp only [List.map_toArray, List.map_cons, List.map_nil]; rfl) ?_
    with_reducible refine (Equal_same _ _ _ _ _ got hrr.out hrs.out).mono ?_
    rintro e w5 ⟨rfl, rfl⟩
    refine ⟨_, rfl, ?_⟩
    refine hK.out _ _ (blk_cell hg3.1 2) (fun hHeld => ?_)
    clear hK K
    refine norm_ (a' := ?_) ?_ ?_
    rotate_left
    · show Act.put _ (some 54) _ = _
      simp only [Act.put, List.setIfInBounds_toArray, List.set_cons_zero, List.set_cons_succ, i64_w, i32_w]
      rfl
    refine pure_ (i := 9) (N := some 6) (v := ?_) (a' := ?_) #[true, true, true, true, true, true, true, true, true, true] rfl rfl (by kernel_rfl) (fun _ _ _ h => h) (Or.inl ⟨by rfl, ?_⟩) ?_ ?_
    rotate_left
    · intro w'
      go_simp
      with_reducible rfl
    rotate_left
    · simp only [Act.put, List.setIfInBounds_toArray, List.set_cons_zero, List.set_cons_succ, i64_w, i32_w]
      rfl
    refine done_ (by kernel_rfl) ?_
    replace hB3 := Lib.hid hB3
    clear hB2 hg2 hg3 hrr hrs hB hg
    go_wp2_with fail
    go_ret
    exact ⟨by simp, v1, vq1, readD D p.a, hB3.out, hcn.out⟩
  · have hcn := Lib.hid (HN.out.mono (m := n + 4194304) (by omega))
    refine start_ (n := 10) (S := fun w' => w'.cell? ⟨w.heap.size, 2, none⟩ = some (.int .i64 p.a)) (ds := []) #[false, false, false, false, false, false, false, false, false, false] (by kernel_rfl) rfl rfl (q2) (fun hHeld => ?_)
    refine pure_ (i := 0) (N := some 57) (v := ?_) (a' := ?_) #[true, false, false, false, false, false, false, false, false, false] rfl rfl (by kernel_rfl) (fun _ _ _ h => h) (Or.inl ⟨by rfl, ?_⟩) ?_ ?_
    rotate_left
    · intro w'
      go_simp
      with_reducible rfl
    rotate_left
    · simp only [Act.put, List.setIfInBounds_toArray, List.set_cons_zero, List.set_cons_succ, i64_w, i32_w]
      rfl
    refine pure_ (i := 1) (N := some 58) (v := ?_) (a' := ?_) #[true, true, false, false, false, false, false, false, false, false] rfl rfl (by kernel_rfl) (fun _ _ _ h => h) (Or.inl ⟨by rfl, ?_⟩) ?_ ?_
    rotate_left
    · intro w'
      go_simp
      with_reducible rfl
    rotate_left
    · simp only [Act.put, List.setIfInBounds_toArray, List.set_cons_zero, List.set_cons_succ, i64_w, i32_w]
      rfl
    refine pure_ (i := 4) (N := some 61) (v := ?_) (a' := ?_) #[true, true, false, false, true, false, false, false, false, false] rfl rfl (by kernel_rfl) (fun _ _ _ h => h) (Or.inl ⟨by rfl, ?_⟩) ?_ ?_
    rotate_left
    · intro w'
      go_simp
      with_reducible rfl
    rotate_left
    · simp only [Act.put, List.setIfInBounds_toArray, List.set_cons_zero, List.set_cons_succ, i64_w, i32_w]
      rfl
    refine pure_ (i := 5) (N := some 62) (v := ?_) (a' := ?_) #[true, true, false, false, true, true, false, false, false, false] rfl rfl (by kernel_rfl) (fun _ _ _ h => h) (Or.inl ⟨by rfl, ?_⟩) ?_ ?_
    rotate_left
    · intro w'
      go_simp
      with_reducible rfl
    rotate_left
    · simp only [Act.put, List.setIfInBounds_toArray, List.set_cons_zero, List.set_cons_succ, i64_w, i32_w]
      rfl
    refine take_ (i := 2) (N := some 59) (v := ?_) (a' := ?_) #[true, true, true, false, true, true, false, false, false, false] rfl rfl (by kernel_rfl) (fun _ _ _ h => h) (Or.inl ⟨by rfl, ?_⟩) hHeld ?_ ?_
    rotate_left
    · intro w' s0
      go_simp
      with_reducible rfl
    rotate_left
    · simp only [Act.put, List.setIfInBounds_toArray, List.set_cons_zero, List.set_cons_succ, i64_w, i32_w]
      rfl
    refine take_ (i := 6) (N := some 63) (v := ?_) (a' := ?_) #[true, true, true, false, true, true, true, false, false, false] rfl rfl (by kernel_rfl) (fun _ _ _ h => h) (Or.inl ⟨by rfl, ?_⟩) hHeld ?_ ?_
    rotate_left
    · intro w' s0
      go_simp
      with_reducible rfl
    rotate_left
    · simp only [Act.put, List.setIfInBounds_toArray, List.set_cons_zero, List.set_cons_succ, i64_w, i32_w]
      rfl
    refine one_ (i := 3) (N := some 60) #[true, true, true, true, true, true, true, false, false, false] rfl rfl (by kernel_rfl) (by decide) (fun K hK => ?_)
    refine goes_ Try.func14 (by kernel_rfl) rfl #[.pointer (some ⟨gd, 0, none⟩), .int .i64 p.a] (by rfl) rfl rfl (by simp only [List.map_toArray, List.map_cons, List.map_nil]; rfl) ?_
    with_reducible refine (Peek_calls B gd gb v D _ p.a (hB.drew.d)).mono ?_
    rintro e w3 ⟨vr, rfl, hor, hb1⟩
    refine ⟨_, rfl, ?_⟩
    obtain ⟨hB2, hg2⟩ := hB.drew.below hb1 hg
    have hs3 := hb1.size
    rw [← hgot] at hor
    clear hHeld
    refine hK.out _ _ (blk_cell hg2.1 2) (fun hHeld => ?_)
    clear hK K
    refine norm_ (a' := ?_) ?_ ?_
    rotate_left
    · show Act.put _ (some 60) _ = _
      simp only [Act.put, List.setIfInBounds_toArray, List.set_cons_zero, List.set_cons_succ, i64_w, i32_w]
      rfl
    refine one_ (i := 7) (N := some 64) #[true, true, true, true, true, true, true, true, false, false] rfl rfl (by kernel_rfl) (by decide) (fun K hK => ?_)
    refine goes_ Try.func31 (by kernel_rfl) rfl #[.pointer (some ⟨gq, 0, none⟩), .int .i64 p.a] (by rfl) rfl rfl (by simp only [List.map_toArray, List.map_cons, List.map_nil]; rfl) ?_
    with_reducible refine (RPeek_calls B gq vq D _ p.a hB2.q).mono ?_
    rintro e w4 ⟨vs, rfl, hos, hb2⟩
    refine ⟨_, rfl, ?_⟩
    obtain ⟨hB3, hg3⟩ := hB2.below hb2 hg2
    rw [← hgot] at hos
    have hor2 := hor.below hb2
    obtain ⟨Ar, cr, rfl, hrr⟩ := own_rd hor2
    obtain ⟨As, cs, rfl, hrs⟩ := own_rd hos
    replace hrr := Lib.hid hrr
    replace hrs := Lib.hid hrs
    clear hHeld hor hos hor2 hb1 hb2
    refine hK.out _ _ (blk_cell hg3.1 2) (fun hHeld => ?_)
    clear hK K
    refine norm_ (a' := ?_) ?_ ?_
    rotate_left
    · show Act.put _ (some 64) _ = _
      simp only [Act.put, List.setIfInBounds_toArray, List.set_cons_zero, List.set_cons_succ, i64_w, i32_w]
      rfl
    refine one_ (i := 8) (N := some 65) #[true, true, true, true, true, true, true, true, true, false] rfl rfl (by kernel_rfl) (by decide) (fun K hK => ?_)
    refine goes_ Try.func13 (by kernel_rfl) rfl #[.slice Ar got.length cr, .slice As got.length cs] (by rfl) rfl rfl (by simp only [List.map_toArray, List.map_cons, List.map_nil]; rfl) ?_
    with_reducible refine (Equal_same _ _ _ _ _ got hrr.out hrs.out).mono ?_
    rintro e w5 ⟨rfl, rfl⟩
    refine ⟨_, rfl, ?_⟩
    refine hK.out _ _ (blk_cell hg3.1 2) (fun hHeld => ?_)
    clear hK K
    refine norm_ (a' := ?_) ?_ ?_
    rotate_left
    · show Act.put _ (some 65) _ = _
      simp only [Act.put, List.setIfInBounds_toArray, List.set_cons_zero, List.set_cons_succ, i64_w, i32_w]
      rfl
    refine pure_ (i := 9) (N := some 6) (v := ?_) (a' := ?_) #[true, true, true, true, true, true, true, true, true, true] rfl rfl (by kernel_rfl) (fun _ _ _ h => h) (Or.inl ⟨by rfl, ?_⟩) ?_ ?_
    rotate_left
    · intro w'
      go_simp
      with_reducible rfl
    rotate_left
    · simp only [Act.put, List.setIfInBounds_toArray, List.set_cons_zero, List.set_cons_succ, i64_w, i32_w]
      rfl
    refine done_ (by kernel_rfl) ?_
    replace hB3 := Lib.hid hB3
    clear hB2 hg2 hg3 hrr hrs hB hg
    go_wp2_with fail
    go_ret
    exact ⟨by simp, v, vq, D, hB3.out, hcn.out⟩
  · have hcn := Lib.hid (HN.out.turn p.a (IntKind.u8.wrap p.b))
    refine start_ (n := 16) (S := fun w' => w'.cell? ⟨w.heap.size, 2, none⟩ = some (.int .i64 p.a) ∧ w'.cell? ⟨w.heap.size, 3, none⟩ = some (.int .i64 p.b)) (ds := []) #[false, false, false, false, false, false, false, false, false, false, false, false, false, false, false, false] (by kernel_rfl) rfl rfl ⟨q2, q3⟩ (fun hHeld => ?_)
    refine pure_ (i := 0) (N := some 68) (v := ?_) (a' := ?_) #[true, false, false, false, false, false, false, false, false, false, false, false, false, false, false, false] rfl rfl (by kernel_rfl) (fun _ _ _ h => h) (Or.inl ⟨by rfl, ?_⟩) ?_ ?_
    rotate_left
    · intro w'
      go_simp
      with_reducible rfl
    rotate_left
    · simp only [Act.put, List.setIfInBounds_toArray, List.set_cons_zero, List.set_cons_succ, i64_w, i32_w]
      rfl
    refine pure_ (i := 1) (N := some 69) (v := ?_) (a' := ?_) #[true, true, false, false, false, false, false, false, false, false, false, false, false, false, false, false] rfl rfl (by kernel_rfl) (fun _ _ _ h => h) (Or.inl ⟨by rfl, ?_⟩) ?_ ?_
    rotate_left
    · intro w'
      go_simp
      with_reducible rfl
    rotate_left
    · simp only [Act.put, List.setIfInBounds_toArray, List.set_cons_zero, List.set_cons_succ, i64_w, i32_w]
      rfl
    refine pure_ (i := 3) (N := some 71) (v := ?_) (a' := ?_) #[true, true, false, true, false, false, false, false, false, false, false, false, false, false, false, false] rfl rfl (by kernel_rfl) (fun _ _ _ h => h) (Or.inl ⟨by rfl, ?_⟩) ?_ ?_
    rotate_left
    · intro w'
      go_simp
      with_reducible rfl
    rotate_left
    · simp only [Act.put, List.setIfInBounds_toArray, List.set_cons_zero, List.set_cons_succ, i64_w, i32_w]
      rfl
    refine pure_ (i := 7) (N := some 75) (v := ?_) (a' := ?_) #[true, true, false, true, false, false, false, true, false, false, false, false, false, false, false, false] rfl rfl (by kernel_rfl) (fun _ _ _ h => h) (Or.inl ⟨by rfl, ?_⟩) ?_ ?_
    rotate_left
    · intro w'
      go_simp
      with_reducible rfl
    rotate_left
    · simp only [Act.put, List.setIfInBounds_toArray, List.set_cons_zero, List.set_cons_succ, i64_w, i32_w]
      rfl
    refine pure_ (i := 8) (N := some 76) (v := ?_) (a' := ?_) #[true, true, false, true, false, false, false, true, true, false, false, false, false, false, false, false] rfl rfl (by kernel_rfl) (fun _ _ _ h => h) (Or.inl ⟨by rfl, ?_⟩) ?_ ?_
    rotate_left
    · intro w'
      go_simp
      with_reducible rfl
    rotate_left
    · simp only [Act.put, List.setIfInBounds_toArray, List.set_cons_zero, List.set_cons_succ, i64_w, i32_w]
      rfl
    refine pure_ (i := 10) (N := some 78) (v := ?_) (a' := ?_) #[true, true, false, true, false, false, false, true, true, false, true, false, false, false, false, false] rfl rfl (by kernel_rfl) (fun _ _ _ h => h) (Or.inl ⟨by rfl, ?_⟩) ?_ ?_
    rotate_left
    · intro w'
      go_simp
      with_reducible rfl
    rotate_left
    · simp only [Act.put, List.setIfInBounds_toArray, List.set_cons_zero, List.set_cons_succ, i64_w, i32_w]
      rfl
    refine take_ (i := 2) (N := some 70) (v := ?_) (a' := ?_) #[true, true, true, true, false, false, false, true, true, false, true, false, false, false, false, false] rfl rfl (by kernel_rfl) (fun _ _ _ h => h) (Or.inl ⟨by rfl, ?_⟩) hHeld ?_ ?_
    rotate_left
    · rintro w' ⟨s0, s1⟩
      go_simp
      with_reducible rfl
    rotate_left
    · simp only [Act.put, List.setIfInBounds_toArray, List.set_cons_zero, List.set_cons_succ, i64_w, i32_w]
      rfl
    refine take_ (i := 4) (N := some 72) (v := ?_) (a' := ?_) #[true, true, true, true, true, false, false, true, true, false, true, false, false, false, false, false] rfl rfl (by kernel_rfl) (fun _ _ _ h => h) (Or.inl ⟨by rfl, ?_⟩) hHeld ?_ ?_
    rotate_left
    · rintro w' ⟨s0, s1⟩
      go_simp
      with_reducible rfl
    rotate_left
    · simp only [Act.put, List.setIfInBounds_toArray, List.set_cons_zero, List.set_cons_succ, i64_w, i32_w]
      rfl
    refine pure_ (i := 5) (N := some 73) (v := ?_) (a' := ?_) #[true, true, true, true, true, true, false, true, true, false, true, false, false, false, false, false] rfl rfl (by kernel_rfl) (fun _ _ _ h => h) (Or.inl ⟨by rfl, ?_⟩) ?_ ?_
    rotate_left
    · intro w'
      go_simp
      with_reducible rfl
    rotate_left
    · simp only [Act.put, List.setIfInBounds_toArray, List.set_cons_zero, List.set_cons_succ, i64_w, i32_w]
      rfl
    refine take_ (i := 9) (N := some 77) (v := ?_) (a' := ?_) #[true, true, true, true, true, true, false, true, true, true, true, false, false, false, false, false] rfl rfl (by kernel_rfl) (fun _ _ _ h => h) (Or.inl ⟨by rfl, ?_⟩) hHeld ?_ ?_
    rotate_left
    · rintro w' ⟨s0, s1⟩
      go_simp
      with_reducible rfl
    rotate_left
    · simp only [Act.put, List.setIfInBounds_toArray, List.set_cons_zero, List.set_cons_succ, i64_w, i32_w]
      rfl
    refine take_ (i := 11) (N := some 79) (v := ?_) (a' := ?_) #[true, true, true, true, true, true, false, true, true, true, true, true, false, false, false, false] rfl rfl (by kernel_rfl) (fun _ _ _ h => h) (Or.inl ⟨by rfl, ?_⟩) hHeld ?_ ?_
    rotate_left
    · rintro w' ⟨s0, s1⟩
      go_simp
      with_reducible rfl
    rotate_left
    · simp only [Act.put, List.setIfInBounds_toArray, List.set_cons_zero, List.set_cons_succ, i64_w, i32_w]
      rfl
    refine pure_ (i := 12) (N := some 80) (v := ?_) (a' := ?_) #[true, true, true, true, true, true, false, true, true, true, true, true, true, false, false, false] rfl rfl (by kernel_rfl) (fun _ _ _ h => h) (Or.inl ⟨by rfl, ?_⟩) ?_ ?_
    rotate_left
    · intro w'
      go_simp
      with_reducible rfl
    rotate_left
    · simp only [Act.put, List.setIfInBounds_toArray, List.set_cons_zero, List.set_cons_succ, i64_w, i32_w]
      rfl
    refine one_ (i := 6) (N := some 74) #[true, true, true, true, true, true, true, true, true, true, true, true, true, false, false, false] rfl rfl (by kernel_rfl) (by decide) (fun K hK => ?_)
    refine goes_ Try.func23 (by kernel_rfl) rfl #[.pointer (some ⟨gd, 0, none⟩), .int .i64 p.a, .int .u8 (IntKind.u8.wrap p.b)] (by rfl) rfl rfl (by simp only [List.map_toArray, List.map_cons, List.map_nil]; rfl) ?_
    with_reducible refine (Turn_any B gd gb v D _ p.a _ (hB.drew.d) hct).mono ?_
    rintro e w3 ⟨rfl, hD1, hc1⟩
    refine ⟨_, rfl, ?_⟩
    obtain ⟨hB2, hg2⟩ := hB.drew.stepD hD1 (Nx.refl _ _) hc1 hg
    clear hHeld hD1 hc1
    refine hK.out _ _ ⟨blk_cell hg2.1 2, blk_cell hg2.1 3⟩ (fun hHeld => ?_)
    clear hK K
    refine norm_ (a' := ?_) ?_ ?_
    rotate_left
    · show Act.put _ (some 74) _ = _
      simp only [Act.put, List.setIfInBounds_toArray, List.set_cons_zero, List.set_cons_succ, i64_w, i32_w]
      rfl
    refine one_ (i := 13) (N := some 81) #[true, true, true, true, true, true, true, true, true, true, true, true, true, true, false, false] rfl rfl (by kernel_rfl) (by decide) (fun K hK => ?_)
    refine goes_ Try.func32 (by kernel_rfl) rfl #[.pointer (some ⟨gq, 0, none⟩), .int .i64 p.a, .int .u8 (IntKind.u8.wrap p.b)] (by rfl) rfl rfl (by simp only [List.map_toArray, List.map_cons, List.map_nil]; rfl) ?_
    with_reducible refine (RTurn_any B gq vq D _ p.a _ hB2.q hct).mono ?_
    rintro e w4 ⟨rfl, hQ1, hc2⟩
    refine ⟨_, rfl, ?_⟩
    obtain ⟨hB3, hg3⟩ := hB2.stepQ hQ1 (Nx.refl _ _) hc2 hg2
    clear hHeld hQ1 hc2
    refine hK.out _ _ ⟨blk_cell hg3.1 2, blk_cell hg3.1 3⟩ (fun hHeld => ?_)
    clear hK K
    refine norm_ (a' := ?_) ?_ ?_
    rotate_left
    · show Act.put _ (some 81) _ = _
      simp only [Act.put, List.setIfInBounds_toArray, List.set_cons_zero, List.set_cons_succ, i64_w, i32_w]
      rfl
    refine pure_ (i := 14) (N := some 82) (v := ?_) (a' := ?_) #[true, true, true, true, true, true, true, true, true, true, true, true, true, true, true, false] rfl rfl (by kernel_rfl) (fun _ _ _ h => h) (Or.inl ⟨by rfl, ?_⟩) ?_ ?_
    rotate_left
    · intro w'
      go_simp
      with_reducible rfl
    rotate_left
    · simp only [Act.put, List.setIfInBounds_toArray, List.set_cons_zero, List.set_cons_succ, i64_w, i32_w]
      rfl
    refine pure_ (i := 15) (N := some 6) (v := ?_) (a' := ?_) #[true, true, true, true, true, true, true, true, true, true, true, true, true, true, true, true] rfl rfl (by kernel_rfl) (fun _ _ _ h => h) (Or.inl ⟨by rfl, ?_⟩) ?_ ?_
    rotate_left
    · intro w'
      go_simp
      with_reducible rfl
    rotate_left
    · simp only [Act.put, List.setIfInBounds_toArray, List.set_cons_zero, List.set_cons_succ, i64_w, i32_w]
      rfl
    refine done_ (by kernel_rfl) ?_
    replace hB3 := Lib.hid hB3
    clear hB2 hg2 hg3 hB hg
    go_wp2_with fail
    go_ret
    exact ⟨by simp, v, vq, _, hB3.out, hcn.out⟩
  · have hcn := Lib.hid (HN.out.lose hok.out p.a p.b)
    refine (Lose_any B gd gb v D W p.a p.b hB.d hcl).mono ?_
    rintro e w3 ⟨rfl, v1, hD1, hn1, hc1⟩
    obtain ⟨hB2, hg2⟩ := hB.stepD hD1 hn1 hc1 hg
    have q2' := blk_cell hg2.1 2
    have q3' := blk_cell hg2.1 3
    simp only [List.getElem?_toArray, List.getElem?_cons_zero, List.getElem?_cons_succ] at q2' q3'
    have hRW := RLose_any B gq vq D w3 p.a p.b hB2.q hcl
    generalize loseM D p.a p.b = nn at *
    generalize loseE D p.a p.b = ne at *
    generalize loseX D p.a p.b = D1 at *
    clear hg hB hD1 hn1 hc1 q0 q1 q2 q3
    go_wp2_with fail
    refine hRW.mono ?_
    clear hRW
    rintro e w4 ⟨rfl, vq1, hQ1, hn2, hc2⟩
    obtain ⟨hB3, -⟩ := hB2.stepQ hQ1 hn2 hc2 hg2
    replace hB3 := Lib.hid hB3
    clear hB2 hg2 hQ1 hn2 hc2 q2' q3'
    go_wp2_with fail
    go_ret
    exact ⟨by simp, v1, vq1, D1, hB3.out, hcn.out⟩
  · have hcn := Lib.hid (HN.out.shut.mono (m := n + 4194304) (by omega))
    refine (Shut_anyB W B gd gb v D hB.d).mono ?_
    rintro e w3 ⟨err, rfl, he1, hD1, hc1⟩
    obtain ⟨hB2, hg2⟩ := hB.stepD hD1 (Nx.refl _ _) hc1 hg
    have hRW := RShut_any B gq vq D w3 hB2.q
    replace he1 := Lib.hid he1
    clear hg hB hD1 hc1 q0 q1 q2 q3
    go_wp2_with fail
    refine hRW.mono ?_
    clear hRW
    rintro e w4 ⟨err2, rfl, he2, hQ1, hc2⟩
    obtain rfl : err2 = err := by rw [he2, he1.out]
    obtain ⟨hB3, -⟩ := hB2.stepQ hQ1 (Nx.refl _ _) hc2 hg2
    replace hB3 := Lib.hid hB3
    clear he1 he2 hB2 hg2 hQ1 hc2
    go_wp2_with fail
    go_ret
    exact ⟨by simp, v, vq, _, hB3.out, hcn.out⟩
  · have hcn := Lib.hid (HN.out.mono (m := n + 4194304) (by omega))
    have hD := Done_calls B gd gb v D W hB.d
    have hQ := RDone_calls B gq vq D W hB.q
    generalize (D.shut && decide (D.held.length = 0)) = bb at *
    refine hD.mono ?_
    clear hD
    rintro e w3 ⟨rfl, rfl⟩
    replace hB := Lib.hid hB
    clear hg q0 q1 q2 q3
    go_wp2_with fail
    refine hQ.mono ?_
    clear hQ
    rintro e w4 ⟨rfl, rfl⟩
    go_wp2_with fail
    go_ret
    exact ⟨by simp, v, vq, D, hB.out, hcn.out⟩
  · have hcn := Lib.hid (HN.out.mono (m := n + 4194304) (by omega))
    obtain ⟨-, -, -, z3, z4, z5, z6⟩ := hB.q.cells
    refine start_ (n := 8) (S := fun w' => w'.cell? ⟨gq, 3, none⟩ = some (.int .i64 D.ci) ∧ w'.cell? ⟨gq, 4, none⟩ = some (.int .i64 D.co) ∧ w'.cell? ⟨gq, 5, none⟩ = some (.int .i64 D.ct) ∧ w'.cell? ⟨gq, 6, none⟩ = some (.int .i64 D.cl)) (ds := []) #[false, false, false, false, false, false, false, false] (by kernel_rfl) rfl rfl ⟨z3, z4, z5, z6⟩ (fun hHeld => ?_)
    refine pure_ (i := 0) (N := some 125) (v := ?_) (a' := ?_) #[true, false, false, false, false, false, false, false] rfl rfl (by kernel_rfl) (fun _ _ _ h => h) (Or.inl ⟨by rfl, ?_⟩) ?_ ?_
    rotate_left
    · intro w'
      go_simp
      with_reducible rfl
    rotate_left
    · simp only [Act.put, List.setIfInBounds_toArray, List.set_cons_zero, List.set_cons_succ, i64_w, i32_w]
      rfl
    refine pure_ (i := 2) (N := some 127) (v := ?_) (a' := ?_) #[true, false, true, false, false, false, false, false] rfl rfl (by kernel_rfl) (fun _ _ _ h => h) (Or.inl ⟨by rfl, ?_⟩) ?_ ?_
    rotate_left
    · intro w'
      go_simp
      with_reducible rfl
    rotate_left
    · simp only [Act.put, List.setIfInBounds_toArray, List.set_cons_zero, List.set_cons_succ, i64_w, i32_w]
      rfl
    refine pure_ (i := 3) (N := some 128) (v := ?_) (a' := ?_) #[true, false, true, true, false, false, false, false] rfl rfl (by kernel_rfl) (fun _ _ _ h => h) (Or.inl ⟨by rfl, ?_⟩) ?_ ?_
    rotate_left
    · intro w'
      go_simp
      with_reducible rfl
    rotate_left
    · simp only [Act.put, List.setIfInBounds_toArray, List.set_cons_zero, List.set_cons_succ, i64_w, i32_w]
      rfl
    refine pure_ (i := 4) (N := some 129) (v := ?_) (a' := ?_) #[true, false, true, true, true, false, false, false] rfl rfl (by kernel_rfl) (fun _ _ _ h => h) (Or.inl ⟨by rfl, ?_⟩) ?_ ?_
    rotate_left
    · intro w'
      go_simp
      with_reducible rfl
    rotate_left
    · simp only [Act.put, List.setIfInBounds_toArray, List.set_cons_zero, List.set_cons_succ, i64_w, i32_w]
      rfl
    refine take_ (i := 5) (N := some 130) (v := ?_) (a' := ?_) #[true, false, true, true, true, true, false, false] rfl rfl (by kernel_rfl) (fun _ _ _ h => h) (Or.inl ⟨by rfl, ?_⟩) hHeld ?_ ?_
    rotate_left
    · rintro w' ⟨s0, s1, s2, s3⟩
      go_simp
      with_reducible rfl
    rotate_left
    · simp only [Act.put, List.setIfInBounds_toArray, List.set_cons_zero, List.set_cons_succ, i64_w, i32_w]
      rfl
    refine one_ (i := 1) (N := some 126) #[true, true, true, true, true, true, false, false] rfl rfl (by kernel_rfl) (by decide) (fun K hK => ?_)
    refine goes_ Try.func15 (by kernel_rfl) rfl #[.pointer (some ⟨gd, 0, none⟩)] (by rfl) rfl rfl (by simp only [List.map_toArray, List.map_cons, List.map_nil]; rfl) ?_
    with_reducible refine (Count_calls B gd gb v D _ (hB.drew.d)).mono ?_
    rintro e w3 ⟨rfl, hb1⟩
    refine ⟨_, rfl, ?_⟩
    obtain ⟨hB2, hg2⟩ := hB.drew.below hb1 hg
    obtain ⟨-, -, -, z3', z4', z5', z6'⟩ := hB2.q.cells
    clear hHeld
    refine hK.out _ _ ⟨z3', z4', z5', z6'⟩ (fun hHeld => ?_)
    clear hK K
    refine norm_ (a' := ?_) ?_ ?_
    rotate_left
    · show Act.put _ (some 126) _ = _
      simp only [Act.put, List.setIfInBounds_toArray, List.set_cons_zero, List.set_cons_succ, i64_w, i32_w]
      rfl
    refine pure_ (i := 6) (N := some 131) (v := ?_) (a' := ?_) #[true, true, true, true, true, true, true, false] rfl rfl (by kernel_rfl) (fun _ _ _ h => h) (Or.inl ⟨by rfl, ?_⟩) ?_ ?_
    rotate_left
    · intro w'
      go_simp
      with_reducible rfl
    rotate_left
    · simp only [Act.put, List.setIfInBounds_toArray, List.set_cons_zero, List.set_cons_succ, i64_w, i32_w]
      rfl
    refine pure_ (i := 7) (N := some 6) (v := ?_) (a' := ?_) #[true, true, true, true, true, true, true, true] rfl rfl (by kernel_rfl) (fun _ _ _ h => h) (Or.inl ⟨by rfl, ?_⟩) ?_ ?_
    rotate_left
    · intro w'
      go_simp
      with_reducible rfl
    rotate_left
    · simp only [Act.put, List.setIfInBounds_toArray, List.set_cons_zero, List.set_cons_succ, i64_w, i32_w]
      rfl
    refine done_ (by kernel_rfl) ?_
    replace hB2 := Lib.hid hB2
    clear hg2 hB hg
    go_wp2_with fail
    go_ret
    exact ⟨by simp, v, vq, D, hB2.out, hcn.out⟩
end Go.Proofs.Ytingiihboibcdaa.D
