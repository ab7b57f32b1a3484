/- The contracts of the methods of a duct that only read it, of a duct that New gave. -/
import Derived.Test.YtingiihboibcdaaD1
namespace Go.Proofs.Ytingiihboibcdaa.D
open Go.RowKit Go.Proofs.YtingiihboibcdaaW.PrintWords Go.Proofs.YtingiihboibcdaaW.PrintLast Go.Proofs.YtingiihboibcdaaW.PrintMore
theorem ret_int {k : IntKind} {a b : Int} (h : a = b) : Ending.returned (.int k a) = .returned (.int k b) := by rw [h]

variable (B gd gb : Nat) (v : Value) (D : DS) (w : World)
theorem bLen_calls (h : Duct w B gd gb v D) :
    Calls Try.prog 28 #[.pointer (some ⟨gb, 0, none⟩)] w fun e w' => e = .returned (.int .i64 D.held.length) ∧ w = w' := by
  obtain ⟨A, c, rfl, _⟩ := h.slice
  obtain ⟨q0, q1⟩ := h.bcells
  clear h
  go_enter Try.func28, Try.ntmps28
  go_wp2_with fail
  go_ret
  exact ⟨rfl, rfl⟩
theorem Len_calls (h : Duct w B gd gb v D) :
    Calls Try.prog 12 #[.pointer (some ⟨gd, 0, none⟩)] w fun e w' => e = .returned (.int .i64 D.held.length) ∧ w = w' := by
  obtain ⟨q0, _, _, _, _, _⟩ := h.dcells
  go_enter Try.func12, Try.ntmps12
  go_wp2_with (first | (go_at_call 25; go_must (refine (made_yes B gd gb v D _ h).mono ?_); rintro e w' ⟨rfl, rfl⟩) | (go_at_call 28; go_must (refine (bLen_calls B gd gb v D _ h).mono ?_); rintro e w' ⟨rfl, rfl⟩))
  go_ret
  exact ⟨rfl, rfl⟩
theorem Room_calls (h : Duct w B gd gb v D) :
    Calls Try.prog 18 #[.pointer (some ⟨gd, 0, none⟩)] w fun e w' => e = .returned (.int .i64 (if D.shut then 0 else D.room - D.held.length)) ∧ ∃ k, w' = w.drewN k := by
  obtain ⟨q0, q1, _, _, _, _⟩ := h.dcells
  have ok := h.ok
  cases hs : D.shut
  · rw [hs] at q1
    obtain ⟨A, c, rfl, _⟩ := h.slice
    obtain ⟨q6, q7⟩ := h.bcells
    have e1 := ok.r0
    have e2 := ok.r1
    have e3 := ok.h1
    go_enter Try.func18, Try.ntmps18
    go_wp2_with (first | (go_at_call 25; go_must (refine (made_yes B gd gb _ D _ h).mono ?_); rintro e w' ⟨rfl, rfl⟩))
    go_quiet (fail)
    go_wp2
    go_ret
    exact ⟨rfl, _, rfl⟩
  · rw [hs] at q1
    go_enter Try.func18, Try.ntmps18
    go_wp2_with (first | (go_at_call 25; go_must (refine (made_yes B gd gb v D _ h).mono ?_); rintro e w' ⟨rfl, rfl⟩))
    go_ret
    exact ⟨rfl, 0, rfl⟩
theorem Done_calls (h : Duct w B gd gb v D) :
    Calls Try.prog 20 #[.pointer (some ⟨gd, 0, none⟩)] w fun e w' => e = .returned (.bool (D.shut && decide (D.held.length = 0))) ∧ w = w' := by
  obtain ⟨q0, q1, _, _, _, _⟩ := h.dcells
  obtain ⟨A, c, rfl, _⟩ := h.slice
  obtain ⟨q6, q7⟩ := h.bcells
  cases hs : D.shut
  · rw [hs] at q1
    go_enter Try.func20, Try.ntmps20
    go_wp2_with (first | (go_at_call 25; go_must (refine (made_yes B gd gb _ D _ h).mono ?_); rintro e w' ⟨rfl, rfl⟩))
    go_ret
    exact ⟨rfl, rfl⟩
  · rw [hs] at q1
    by_cases h0 : D.held.length = 0
    · have h1 : ((D.held.length : Int) == 0) = true := by rw [h0]; rfl
      go_enter Try.func20, Try.ntmps20
      go_wp2_with (first | (go_at_call 25; go_must (refine (made_yes B gd gb _ D _ h).mono ?_); rintro e w' ⟨rfl, rfl⟩))
      go_ret
      exact ⟨by simp [h0], rfl⟩
    · have h1 : ((D.held.length : Int) == 0) = false := by rw [beq_eq_false_iff_ne]; omega
      go_enter Try.func20, Try.ntmps20
      go_wp2_with (first | (go_at_call 25; go_must (refine (made_yes B gd gb _ D _ h).mono ?_); rintro e w' ⟨rfl, rfl⟩))
      go_ret
      exact ⟨by simp [h0], rfl⟩
theorem Count_calls (h : Duct w B gd gb v D) :
    Calls Try.prog 15 #[.pointer (some ⟨gd, 0, none⟩)] w fun e w' => e = .returned (.agg #[.int .i64 D.ci, .int .i64 D.co, .int .i64 D.ct, .int .i64 D.cl]) ∧ Below w.heap.size w w' := by
  obtain ⟨q0, q1, q2, q3, q4, q5⟩ := h.dcells
  have hlt := blk_lt h.d
  go_enter Try.func15, Try.ntmps15
  go_wp2_with fail
  refine bodyPost_ret (v := .agg #[.int .i64 D.ci, .int .i64 D.co, .int .i64 D.ct, .int .i64 D.cl]) (by simp [results, Try.results15, go_sem]) rfl ⟨rfl, below_alloc (Below.refl _ _) _⟩
/-- how many there are of the first n -/
def firstN (D : DS) (n : Int) : Nat := (mn (mx n 0) (D.held.length : Int)).toNat
theorem firstN_le (D : DS) (n : Int) : firstN D n ≤ D.held.length := by unfold firstN mn mx; split <;> split <;> omega
theorem max_run (n : Int) (W : World) : (Builtin.max_ #[3, 3] 3 #[.int .i64 n, .int .i64 0]).run Try.prog W = .ok (.int .i64 (mx n 0)) W := by
  rw [max_two, max2_int]
  rfl
theorem min_run (a b : Int) (W : World) : (Builtin.min_ #[3, 3] 3 #[.int .i64 a, .int .i64 b]).run Try.prog W = .ok (.int .i64 (mn a b)) W := by
  rw [min_two, min2_int]
  rfl
theorem first_calls (n : Int) (h : Duct w B gd gb v D) :
    Calls Try.prog 27 #[.pointer (some ⟨gd, 0, none⟩), .int .i64 n] w fun e w' => e = .returned (.int .i64 (firstN D n : Nat)) ∧ w = w' := by
  obtain ⟨q0, q1, _, _, _, _⟩ := h.dcells
  obtain ⟨A, c, rfl, _⟩ := h.slice
  obtain ⟨q6, q7⟩ := h.bcells
  have hx := fun W => max_run n W
  have hm := fun W => min_run (mx n 0) (D.held.length : Int) W
  go_enter Try.func27, Try.ntmps27
  go_wp2_with (first | (go_at_call 25; go_must (refine (made_yes B gd gb _ D _ h).mono ?_); rintro e w' ⟨rfl, rfl⟩))
  go_ret
  exact ⟨ret_int (by unfold firstN mn mx; split <;> split <;> omega), rfl⟩
theorem Shut_no (h : Duct w B gd gb v D) (hs : D.shut = true) :
    Calls Try.prog 11 #[.pointer (some ⟨gd, 0, none⟩)] w fun e w' => e = .returned (.int .i64 91) ∧ w = w' := by
  obtain ⟨q0, q1, _, _, _, _⟩ := h.dcells
  rw [hs] at q1
  go_enter Try.func11, Try.ntmps11
  go_wp2_with (first | (go_at_call 25; go_must (refine (made_yes B gd gb _ D _ h).mono ?_); rintro e w' ⟨rfl, rfl⟩))
  go_ret
  exact ⟨rfl, rfl⟩
theorem Shut_yes (h : Duct w B gd gb v D) (hs : D.shut = false) :
    Calls Try.prog 11 #[.pointer (some ⟨gd, 0, none⟩)] w fun e w' => e = .returned (.int .i64 0) ∧ Duct w' B gd gb v { D with shut := true } ∧ Chg w w' (FD gd gb v) := by
  obtain ⟨q0, q1, _, _, _, _⟩ := h.dcells
  rw [hs] at q1
  have hf := blk_frozen h.d 1
  have ok := h.ok
  go_enter Try.func11, Try.ntmps11
  go_wp2_with (first | (go_at_call 25; go_must (refine (made_yes B gd gb _ D _ h).mono ?_); rintro e w' ⟨rfl, rfl⟩))
  go_ret
  exact ⟨rfl, ⟨by have := blk_set h.d 1 (.bool true); simpa using this, blk_far h.b (by exact h.ne.symm) _, own_setCell h.o (by exact h.ned) _, h.bd, h.bb, ⟨ok.1, ok.2, ok.3, ok.4, ok.5, ok.6, ok.7, ok.8, ok.9, ok.10, ok.11⟩⟩, (Chg.refl _ _).set_ (.inl rfl) _⟩
end Go.Proofs.Ytingiihboibcdaa.D
