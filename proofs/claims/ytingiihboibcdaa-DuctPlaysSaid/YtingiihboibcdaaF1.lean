/- The document's duct in memory, and the contracts of its plain functions. -/
import Derived.Test.YtingiihboibcdaaE5
namespace Go.Proofs.Ytingiihboibcdaa.D
open Go.RowKit Go.Proofs.YtingiihboibcdaaW.PrintWords Go.Proofs.YtingiihboibcdaaW.PrintLast Go.Proofs.YtingiihboibcdaaW.PrintMore
set_option linter.unusedSimpArgs false

/-- the document's duct in memory: its block, the row -/
structure RD (w : World) (B gq : Nat) (v : Value) (D : DS) : Prop where
  q : w.heap[gq]? = some (.cells #[.int .i64 D.room, v, .bool D.shut, .int .i64 D.ci, .int .i64 D.co, .int .i64 D.ct, .int .i64 D.cl] 44 (0, 0))
  o : Own w B v D.held
  bq : B ≤ gq
  ok : DOk D
def FQ (gq : Nat) (v : Value) (k : Nat) : Prop := k = gq ∨ v.ownBlock = some k
section
variable {w w1 : World} {B gq : Nat} {v : Value} {D : DS}
theorem RD.cells (h : RD w B gq v D) : w.cell? ⟨gq, 0, none⟩ = some (.int .i64 D.room) ∧ w.cell? ⟨gq, 1, none⟩ = some v ∧ w.cell? ⟨gq, 2, none⟩ = some (.bool D.shut) ∧ w.cell? ⟨gq, 3, none⟩ = some (.int .i64 D.ci) ∧ w.cell? ⟨gq, 4, none⟩ = some (.int .i64 D.co) ∧ w.cell? ⟨gq, 5, none⟩ = some (.int .i64 D.ct) ∧ w.cell? ⟨gq, 6, none⟩ = some (.int .i64 D.cl) :=
  ⟨blk_cell h.q 0, blk_cell h.q 1, blk_cell h.q 2, blk_cell h.q 3, blk_cell h.q 4, blk_cell h.q 5, blk_cell h.q 6⟩
theorem RD.drewN (h : RD w B gq v D) (k : Nat) : RD (w.drewN k) B gq v D := ⟨h.q, h.o, h.bq, h.ok⟩
theorem RD.chg {S : Nat → Prop} (h : RD w B gq v D) (hc : Chg w w1 S) (hn : ∀ k, FQ gq v k → ¬ S k) : RD w1 B gq v D :=
  ⟨hc.blk h.q (hn _ (.inl rfl)), hc.own h.o (fun k hk => hn k (.inr hk)), h.bq, h.ok⟩
theorem RD.below (h : RD w B gq v D) (hb : Below w.heap.size w w1) : RD w1 B gq v D := h.chg (Chg.of_below hb (fun _ => False)) (fun _ _ h => h)
theorem RD.fq (h : RD w B gq v D) : ∀ k, FQ gq v k → B ≤ k ∧ k < w.heap.size := by
  rintro k (rfl | hk)
  · exact ⟨h.bq, blk_lt h.q⟩
  · exact ⟨own_base h.o k hk, own_lt h.o k hk⟩
theorem RD.slice (h : RD w B gq v D) : ∃ A c, v = .slice A D.held.length c ∧ Rd w A D.held := own_rd h.o
theorem RD.ne (h : RD w B gq v D) : some gq ≠ v.ownBlock := own_ne h.o h.q (by decide)
theorem FQ.nx {W : World} {gq : Nat} {v v1 : Value} (hn : Nx W v v1) : ∀ q, q < W.heap.size → FQ gq v1 q → FQ gq v q := by
  rintro q hq (h | h)
  · exact .inl h
  · rcases hn q h with h1 | h1
    · exact .inr h1
    · omega
theorem RD.setHeld {v1 : Value} {l : List Int} (h : RD w B gq v D) {B1 : Nat} (ho : Own w B1 v1 l) (hB : B ≤ B1) (hl : (l.length : Int) ≤ D.room) : RD (w.setCell ⟨gq, 1, none⟩ v1) B gq v1 { D with held := l } :=
  ⟨set_row h.q 1 v1 _ rfl, own_setCell (ho.lower hB) (p := ⟨gq, 1, none⟩) (own_ne ho h.q (by decide)) _, h.bq, ⟨h.ok.1, h.ok.2, hl, h.ok.4, h.ok.5, h.ok.6, h.ok.7, h.ok.8, h.ok.9, h.ok.10, h.ok.11⟩⟩
theorem RD.setCi (h : RD w B gq v D) (x : Int) (h0 : 0 ≤ x) (h1 : x ≤ 9223372036854775807) : RD (w.setCell ⟨gq, 3, none⟩ (.int .i64 x)) B gq v { D with ci := x } :=
  ⟨set_row h.q 3 _ _ rfl, own_setCell h.o (p := ⟨gq, 3, none⟩) h.ne _, h.bq, ⟨h.ok.1, h.ok.2, h.ok.3, h0, h1, h.ok.6, h.ok.7, h.ok.8, h.ok.9, h.ok.10, h.ok.11⟩⟩
theorem RD.setCo (h : RD w B gq v D) (x : Int) (h0 : 0 ≤ x) (h1 : x ≤ 9223372036854775807) : RD (w.setCell ⟨gq, 4, none⟩ (.int .i64 x)) B gq v { D with co := x } :=
  ⟨set_row h.q 4 _ _ rfl, own_setCell h.o (p := ⟨gq, 4, none⟩) h.ne _, h.bq, ⟨h.ok.1, h.ok.2, h.ok.3, h.ok.4, h.ok.5, h0, h1, h.ok.8, h.ok.9, h.ok.10, h.ok.11⟩⟩
theorem RD.setCt (h : RD w B gq v D) (x : Int) (h0 : 0 ≤ x) (h1 : x ≤ 9223372036854775807) : RD (w.setCell ⟨gq, 5, none⟩ (.int .i64 x)) B gq v { D with ct := x } :=
  ⟨set_row h.q 5 _ _ rfl, own_setCell h.o (p := ⟨gq, 5, none⟩) h.ne _, h.bq, ⟨h.ok.1, h.ok.2, h.ok.3, h.ok.4, h.ok.5, h.ok.6, h.ok.7, h0, h1, h.ok.10, h.ok.11⟩⟩
theorem RD.setCl (h : RD w B gq v D) (x : Int) (h0 : 0 ≤ x) (h1 : x ≤ 9223372036854775807) : RD (w.setCell ⟨gq, 6, none⟩ (.int .i64 x)) B gq v { D with cl := x } :=
  ⟨set_row h.q 6 _ _ rfl, own_setCell h.o (p := ⟨gq, 6, none⟩) h.ne _, h.bq, ⟨h.ok.1, h.ok.2, h.ok.3, h.ok.4, h.ok.5, h.ok.6, h.ok.7, h.ok.8, h.ok.9, h0, h1⟩⟩
theorem RD.turned {g c : Nat} (h : RD w B gq (.slice (some ⟨g, 0, none⟩) D.held.length c) D) (at_ x : Int) : RD (w.setCell ⟨g, at_.toNat, none⟩ (.int .u8 x)) B gq (.slice (some ⟨g, 0, none⟩) D.held.length c) { D with held := D.held.set at_.toNat x } := by
  have hl : (D.held.set at_.toNat x).length = D.held.length := by simp
  have h1 := h.ne
  simp only [Value.ownBlock, ne_eq, Option.some.injEq] at h1
  refine ⟨blk_far h.q h1 _, ?_, h.bq, ⟨h.ok.1, h.ok.2, by simp only [hl]; exact h.ok.3, h.ok.4, h.ok.5, h.ok.6, h.ok.7, h.ok.8, h.ok.9, h.ok.10, h.ok.11⟩⟩
  have h3 := (own_store h.o at_ x).1
  unfold Own
  simp only [hl]
  exact h3
end

variable (B gq : Nat) (v : Value) (D : DS) (w : World)
theorem RNew_bad (room : Int) (h : room < 1 ∨ 4194304 < room) :
    Calls Try.prog 16 #[.int .i64 room] w fun e w' => e = .returned (.tuple #[.agg #[.int .i64 0, .slice none 0 0, .bool false, .int .i64 0, .int .i64 0, .int .i64 0, .int .i64 0], .int .i64 90]) ∧ Below w.heap.size w w' := by
  rcases h with h | h
  · go_enter Try.func16, Try.ntmps16
    go_wp2_with fail
    refine bodyPost_ret (v := .tuple #[.agg #[.int .i64 0, .slice none 0 0, .bool false, .int .i64 0, .int .i64 0, .int .i64 0, .int .i64 0], .int .i64 90]) (by simp [results, Try.results16, go_sem]) rfl ⟨rfl, below_alloc (Below.refl _ _) _⟩
  · have h1 : ¬ room < 1 := by omega
    go_enter Try.func16, Try.ntmps16
    go_wp2_with fail
    refine bodyPost_ret (v := .tuple #[.agg #[.int .i64 0, .slice none 0 0, .bool false, .int .i64 0, .int .i64 0, .int .i64 0, .int .i64 0], .int .i64 90]) (by simp [results, Try.results16, go_sem]) rfl ⟨rfl, below_alloc (Below.refl _ _) _⟩
theorem RNew_good (room : Int) (h : 1 ≤ room) (h2 : room ≤ 4194304) :
    Calls Try.prog 16 #[.int .i64 room] w fun e w' => e = .returned (.tuple #[.agg #[.int .i64 room, .slice none 0 0, .bool false, .int .i64 0, .int .i64 0, .int .i64 0, .int .i64 0], .int .i64 0]) ∧ Below w.heap.size w w' := by
  have h1 : ¬ room < 1 := by omega
  go_enter Try.func16, Try.ntmps16
  go_wp2_with fail
  refine bodyPost_ret (v := .tuple #[.agg #[.int .i64 room, .slice none 0 0, .bool false, .int .i64 0, .int .i64 0, .int .i64 0, .int .i64 0], .int .i64 0]) (by simp [results, Try.results16, go_sem]) rfl ⟨rfl, below_alloc (Below.refl _ _) _⟩
theorem RRoom_calls (h : RD w B gq v D) :
    Calls Try.prog 19 #[.pointer (some ⟨gq, 0, none⟩)] w fun e w' => e = .returned (.int .i64 (if D.shut then 0 else D.room - D.held.length)) ∧ ∃ k, w' = w.drewN k := by
  obtain ⟨q0, q1, q2, -, -, -, -⟩ := h.cells
  have ok := h.ok
  cases hs : D.shut
  · rw [hs] at q2
    obtain ⟨A, c, rfl, _⟩ := h.slice
    have e1 := ok.r0
    have e2 := ok.r1
    have e3 := ok.h1
    go_enter Try.func19, Try.ntmps19
    go_wp2_with fail
    go_quiet (fail)
    go_wp2
    go_ret
    exact ⟨rfl, _, rfl⟩
  · rw [hs] at q2
    go_enter Try.func19, Try.ntmps19
    go_wp2_with fail
    go_ret
    exact ⟨rfl, 0, rfl⟩
theorem RDone_calls (h : RD w B gq v D) :
    Calls Try.prog 21 #[.pointer (some ⟨gq, 0, none⟩)] w fun e w' => e = .returned (.bool (D.shut && decide (D.held.length = 0))) ∧ w = w' := by
  obtain ⟨q0, q1, q2, -, -, -, -⟩ := h.cells
  obtain ⟨A, c, rfl, _⟩ := h.slice
  cases hs : D.shut
  · rw [hs] at q2
    go_enter Try.func21, Try.ntmps21
    go_wp2_with fail
    go_ret
    exact ⟨rfl, rfl⟩
  · rw [hs] at q2
    by_cases h0 : D.held.length = 0
    · have h1 : ((D.held.length : Int) == 0) = true := by rw [h0]; rfl
      go_enter Try.func21, Try.ntmps21
      go_wp2_with fail
      go_ret
      exact ⟨by simp [h0], rfl⟩
    · have h1 : ((D.held.length : Int) == 0) = false := by rw [beq_eq_false_iff_ne]; omega
      go_enter Try.func21, Try.ntmps21
      go_wp2_with fail
      go_ret
      exact ⟨by simp [h0], rfl⟩
theorem RShut_any (h : RD w B gq v D) :
    Calls Try.prog 34 #[.pointer (some ⟨gq, 0, none⟩)] w fun e w' => ∃ err, e = .returned (.int .i64 err) ∧ err = (if D.shut then 91 else 0) ∧ RD w' B gq v { D with shut := true } ∧ Chg w w' (FQ gq v) := by
  obtain ⟨q0, q1, q2, -, -, -, -⟩ := h.cells
  have ok := h.ok
  have HH := Lib.hid h
  cases hs : D.shut
  · rw [hs] at q2
    have hf := blk_frozen h.q 2
    go_enter Try.func34, Try.ntmps34
    go_wp2_with fail
    go_ret
    exact ⟨_, rfl, rfl, ⟨by have := blk_set HH.out.q 2 (.bool true); simpa using this, own_setCell HH.out.o (by exact HH.out.ne) _, HH.out.bq, ⟨ok.1, ok.2, ok.3, ok.4, ok.5, ok.6, ok.7, ok.8, ok.9, ok.10, ok.11⟩⟩, (Chg.refl _ _).set_ (.inl rfl) _⟩
  · rw [hs] at q2
    have e : ({ D with shut := true } : DS) = D := by cases D; simp_all
    go_enter Try.func34, Try.ntmps34
    go_wp2_with fail
    go_ret
    exact ⟨_, rfl, rfl, by first | exact HH.out | (rw [e]; exact HH.out), Chg.refl _ _⟩
theorem RPeek_calls (n : Int) (h : RD w B gq v D) :
    Calls Try.prog 31 #[.pointer (some ⟨gq, 0, none⟩), .int .i64 n] w fun e w' => ∃ v', e = .returned v' ∧ Own w' w.heap.size v' (D.held.take (firstN D n)) ∧ Below w.heap.size w w' := by
  obtain ⟨q0, q1, q2, -, -, -, -⟩ := h.cells
  have hr1 := h.ok.r1
  have hh1 := h.ok.h1
  have hcap : ∀ A c, v = .slice A D.held.length c → D.held.length ≤ c := fun A c e => by have := h.o; rw [e] at this; exact own_cap this
  obtain ⟨A, c, rfl, hrd⟩ := h.slice
  replace hcap := hcap A c rfl
  by_cases h1 : n < 1
  · have e : firstN D n = 0 := by unfold firstN mn mx; split <;> split <;> omega
    rw [e]
    go_enter Try.func31, Try.ntmps31
    go_wp2_with fail
    go_ret
    exact ⟨_, rfl, own_nil _ _ _ _, Below.refl _ _⟩
  · obtain ⟨k, hk, hkl⟩ : ∃ k : Nat, firstN D n = k ∧ ((D.held.length : Int) < n ∧ k = D.held.length ∨ ¬ (D.held.length : Int) < n ∧ (k : Int) = n) := by
      refine ⟨_, rfl, ?_⟩
      unfold firstN mn mx
      split <;> split <;> omega
    have hkle := firstN_le D n
    rw [hk] at hkle ⊢
    clear hk
    obtain ⟨ht1, ht2⟩ := take_run A c D.held k hkle hcap
    have hrt := ht2 w hrd
    have hll : (D.held.take k).length ≤ 4194304 := by rw [List.length_take]; omega
    generalize D.held.take k = got at *
    obtain ⟨v1, w1, hrun, ho, hg, -⟩ := app_run 28 (.slice none 0 0) [] got A c (own_nil w w.heap.size 5 1) hrt (Nat.le_refl _) (by simp; omega)
    rw [List.nil_append] at ho
    replace ho := Lib.hid ho
    replace hg := Lib.hid hg
    clear hrd h ht2 hrt
    rcases hkl with ⟨hgt, rfl⟩ | ⟨hgt, rfl⟩
    · go_enter Try.func31, Try.ntmps31
      go_wp2_with (at_builtin; refine list_run (by rfl) _ _ rfl rfl rfl hrun ?_)
      go_ret
      exact ⟨_, rfl, ho.out, below_of_none hg.out⟩
    · go_enter Try.func31, Try.ntmps31
      go_wp2_with (at_builtin; refine list_run (by rfl) _ _ rfl rfl rfl hrun ?_)
      go_ret
      exact ⟨_, rfl, ho.out, below_of_none hg.out⟩
end Go.Proofs.Ytingiihboibcdaa.D
