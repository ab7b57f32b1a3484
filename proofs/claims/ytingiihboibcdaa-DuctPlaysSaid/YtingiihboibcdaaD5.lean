/- The contracts of Turn and Lose of a duct that New gave. -/
import Derived.Test.YtingiihboibcdaaD4
namespace Go.Proofs.Ytingiihboibcdaa.D
open Go.RowKit Go.Proofs.YtingiihboibcdaaW.PrintWords Go.Proofs.YtingiihboibcdaaW.PrintLast Go.Proofs.YtingiihboibcdaaW.PrintMore
set_option linter.unusedSimpArgs false
variable (B gd gb : Nat) (v : Value) (D : DS) (w : World)
theorem Duct.setCt {W : World} {B gd gb : Nat} {v : Value} {D : DS} (h : Duct W B gd gb v D) (x : Int) (h0 : 0 ≤ x) (h1 : x ≤ 9223372036854775807) : Duct (W.setCell ⟨gd, 4, none⟩ (.int .i64 x)) B gd gb v { D with ct := x } :=
  ⟨set_row h.d 4 _ _ rfl, blk_far h.b (p := ⟨gd, 4, none⟩) h.ne.symm _, own_setCell h.o (p := ⟨gd, 4, none⟩) h.ned _, h.bd, h.bb, ⟨h.ok.1, h.ok.2, h.ok.3, h.ok.4, h.ok.5, h.ok.6, h.ok.7, h0, h1, h.ok.10, h.ok.11⟩⟩
theorem Duct.setCl {W : World} {B gd gb : Nat} {v : Value} {D : DS} (h : Duct W B gd gb v D) (x : Int) (h0 : 0 ≤ x) (h1 : x ≤ 9223372036854775807) : Duct (W.setCell ⟨gd, 5, none⟩ (.int .i64 x)) B gd gb v { D with cl := x } :=
  ⟨set_row h.d 5 _ _ rfl, blk_far h.b (p := ⟨gd, 5, none⟩) h.ne.symm _, own_setCell h.o (p := ⟨gd, 5, none⟩) h.ned _, h.bd, h.bb, ⟨h.ok.1, h.ok.2, h.ok.3, h.ok.4, h.ok.5, h.ok.6, h.ok.7, h.ok.8, h.ok.9, h0, h1⟩⟩
theorem Duct.setCi {W : World} {B gd gb : Nat} {v : Value} {D : DS} (h : Duct W B gd gb v D) (x : Int) (h0 : 0 ≤ x) (h1 : x ≤ 9223372036854775807) : Duct (W.setCell ⟨gd, 2, none⟩ (.int .i64 x)) B gd gb v { D with ci := x } :=
  ⟨set_row h.d 2 _ _ rfl, blk_far h.b (p := ⟨gd, 2, none⟩) h.ne.symm _, own_setCell h.o (p := ⟨gd, 2, none⟩) h.ned _, h.bd, h.bb, ⟨h.ok.1, h.ok.2, h.ok.3, h0, h1, h.ok.6, h.ok.7, h.ok.8, h.ok.9, h.ok.10, h.ok.11⟩⟩
theorem Turn_bad (at_ mask : Int) (h : Duct w B gd gb v D) (hat : at_ < 0 ∨ (D.held.length : Int) ≤ at_) :
    Calls Try.prog 23 #[.pointer (some ⟨gd, 0, none⟩), .int .i64 at_, .int .u8 mask] w fun e w' => e = .returned (.int .i64 30) ∧ w = w' := by
  obtain ⟨q0, -, -, -, -, -⟩ := h.dcells
  obtain ⟨A, c, rfl, hrd⟩ := h.slice
  obtain ⟨q6, -⟩ := h.bcells
  rcases hat with hat | hat
  · go_enter Try.func23, Try.ntmps23
    go_wp2_with (first | (go_at_call 25; go_must (refine (made_yes B gd gb _ D _ h).mono ?_); rintro e w' ⟨rfl, rfl⟩))
    go_ret
    exact ⟨rfl, rfl⟩
  · have h0 : ¬ at_ < 0 := by omega
    go_enter Try.func23, Try.ntmps23
    go_wp2_with (first | (go_at_call 25; go_must (refine (made_yes B gd gb _ D _ h).mono ?_); rintro e w' ⟨rfl, rfl⟩))
    go_ret
    exact ⟨rfl, rfl⟩
def turnD (D : DS) (at_ mask : Int) : DS := { D with held := D.held.set at_.toNat (bits .xor .u8 (rd D.held at_) mask), ct := if mask = 0 then D.ct else D.ct + 1 }
theorem Duct.turned {W : World} {B gd gb : Nat} {D : DS} {g c : Nat} (h : Duct W B gd gb (.slice (some ⟨g, 0, none⟩) D.held.length c) D) (at_ x : Int) : Duct (W.setCell ⟨g, at_.toNat, none⟩ (.int .u8 x)) B gd gb (.slice (some ⟨g, 0, none⟩) D.held.length c) { D with held := D.held.set at_.toNat x } := by
  have hl : (D.held.set at_.toNat x).length = D.held.length := by simp
  have h1 := h.ned
  have h2 := h.neb
  simp only [Value.ownBlock, ne_eq, Option.some.injEq] at h1 h2
  refine ⟨blk_far h.d h1 _, blk_far h.b h2 _, ?_, h.bd, h.bb, ⟨h.ok.1, h.ok.2, by simp only [hl]; exact h.ok.3, h.ok.4, h.ok.5, h.ok.6, h.ok.7, h.ok.8, h.ok.9, h.ok.10, h.ok.11⟩⟩
  have h3 := (own_store h.o at_ x).1
  unfold Own
  simp only [hl]
  exact h3
set_option maxHeartbeats 400000 in
theorem Turn_good (at_ mask : Int) (h : Duct w B gd gb v D) (h0 : 0 ≤ at_) (h1 : at_ < (D.held.length : Int)) (hct : D.ct + 1 ≤ 9223372036854775807) :
    Calls Try.prog 23 #[.pointer (some ⟨gd, 0, none⟩), .int .i64 at_, .int .u8 mask] w fun e w' => e = .returned (.int .i64 0) ∧ Duct w' B gd gb v (turnD D at_ mask) ∧ Chg w w' (FD gd gb v) := by
  obtain ⟨q0, -, -, -, -, -⟩ := h.dcells
  obtain ⟨q6, -⟩ := h.bcells
  have ho := h.o
  unfold Own at ho
  obtain ⟨g, cap, rfl, hgb, hgl⟩ := ho.form (by omega)
  obtain ⟨hc, hf⟩ := own_at h.o at_ h0 h1
  have ht0 := h.ok.ct0
  have hD1 := h.turned at_ (bits .xor .u8 (rd D.held at_) mask)
  have HH := Lib.hid h
  have hC1 : Chg w (w.setCell ⟨g, at_.toNat, none⟩ (.int .u8 (bits .xor .u8 (rd D.held at_) mask))) (FD gd gb (.slice (some ⟨g, 0, none⟩) D.held.length cap)) := (Chg.refl _ _).set_ (.inr (.inr rfl)) _
  by_cases hm : mask = 0
  · have e1 : turnD D at_ mask = { D with held := D.held.set at_.toNat (bits .xor .u8 (rd D.held at_) mask) } := by simp [turnD, hm]
    rw [e1]
    subst hm
    replace hD1 := Lib.hid hD1
    replace hC1 := Lib.hid hC1
    clear h ho e1
    go_enter Try.func23, Try.ntmps23
    go_wp2_with (first | (go_at_call 25; go_must (refine (made_yes B gd gb _ D _ HH.out).mono ?_); rintro e w' ⟨rfl, rfl⟩))
    go_ret
    exact ⟨rfl, hD1.out, hC1.out⟩
  · have e1 : turnD D at_ mask = { D with held := D.held.set at_.toNat (bits .xor .u8 (rd D.held at_) mask), ct := D.ct + 1 } := by simp [turnD, hm]
    rw [e1]
    have hmb : (mask != 0) = true := by simp [hm]
    obtain ⟨-, -, -, -, q4, -⟩ := hD1.dcells
    have hfz := blk_frozen hD1.d 4
    dsimp only at q4
    have hD2 := Lib.hid (hD1.setCt (D.ct + 1) (by omega) (by omega))
    replace hC1 := Lib.hid (hC1.set_ (p := ⟨gd, 4, none⟩) (.inl rfl) (.int .i64 (D.ct + 1)))
    clear h ho hD1 e1 hm
    go_enter Try.func23, Try.ntmps23
    go_wp2_with (first | (go_at_call 25; go_must (refine (made_yes B gd gb _ D _ HH.out).mono ?_); rintro e w' ⟨rfl, rfl⟩))
    go_ret
    exact ⟨rfl, hD2.out, hC1.out⟩

theorem Lose_bad (at_ n : Int) (h : Duct w B gd gb v D) (hat : at_ < 0 ∨ (D.held.length : Int) < at_) :
    Calls Try.prog 22 #[.pointer (some ⟨gd, 0, none⟩), .int .i64 at_, .int .i64 n] w fun e w' => e = .returned (.tuple #[.int .i64 0, .int .i64 30]) ∧ w = w' := by
  obtain ⟨q0, -, -, -, -, -⟩ := h.dcells
  obtain ⟨A, c, rfl, hrd⟩ := h.slice
  obtain ⟨q6, -⟩ := h.bcells
  rcases hat with hat | hat
  · go_enter Try.func22, Try.ntmps22
    go_wp2_with (first | (go_at_call 25; go_must (refine (made_yes B gd gb _ D _ h).mono ?_); rintro e w' ⟨rfl, rfl⟩))
    go_ret2
    exact ⟨rfl, rfl⟩
  · have h0 : ¬ at_ < 0 := by omega
    go_enter Try.func22, Try.ntmps22
    go_wp2_with (first | (go_at_call 25; go_must (refine (made_yes B gd gb _ D _ h).mono ?_); rintro e w' ⟨rfl, rfl⟩))
    go_ret2
    exact ⟨rfl, rfl⟩
theorem Lose_neg (at_ n : Int) (h : Duct w B gd gb v D) (h0 : 0 ≤ at_) (h1 : at_ ≤ (D.held.length : Int)) (hn : n < 0) :
    Calls Try.prog 22 #[.pointer (some ⟨gd, 0, none⟩), .int .i64 at_, .int .i64 n] w fun e w' => e = .returned (.tuple #[.int .i64 0, .int .i64 1]) ∧ w = w' := by
  obtain ⟨q0, -, -, -, -, -⟩ := h.dcells
  obtain ⟨A, c, rfl, hrd⟩ := h.slice
  obtain ⟨q6, -⟩ := h.bcells
  have h2 : ¬ at_ < 0 := by omega
  go_enter Try.func22, Try.ntmps22
  go_wp2_with (first | (go_at_call 25; go_must (refine (made_yes B gd gb _ D _ h).mono ?_); rintro e w' ⟨rfl, rfl⟩))
  go_ret2
  exact ⟨rfl, rfl⟩
def loseN (D : DS) (at_ n : Int) : Nat := (mn n ((D.held.length : Int) - at_)).toNat
def loseD (D : DS) (at_ n : Int) : DS := { D with held := D.held.take at_.toNat ++ D.held.drop (at_.toNat + loseN D at_ n), cl := D.cl + loseN D at_ n }
theorem Pk.grownRow {w W W' : World} {B gd gb : Nat} {v : Value} {D : DS} (h : Pk w W B gd gb v D) {u : Value} {l : List Int} (ho : Own W w.heap.size u l) (hg : W.grownBy W' u.ownBlock) (hne : ∀ q, FD gd gb v q → q < w.heap.size) : Pk w W' B gd gb v D :=
  ⟨h.d.chg (Chg.of_grown hg) (fun k hk he => by have h1 := hne k hk; have h2 := own_base ho k he.symm; omega), h.bel.grown hg h.bel.size (own_base ho)⟩
set_option maxHeartbeats 1000000 in
theorem Lose_good (at_ n : Int) (h : Duct w B gd gb v D) (h0 : 0 ≤ at_) (h1 : at_ ≤ (D.held.length : Int)) (hn : 0 ≤ n) (hcl : D.cl + 4194304 ≤ 9223372036854775807) :
    Calls Try.prog 22 #[.pointer (some ⟨gd, 0, none⟩), .int .i64 at_, .int .i64 n] w fun e w' => e = .returned (.tuple #[.int .i64 (loseN D at_ n : Nat), .int .i64 0]) ∧ ∃ v1, Duct w' B gd gb v1 (loseD D at_ n) ∧ Nx w v v1 ∧ Chg w w' (FD gd gb v) := by
  have hk0 : mn n ((D.held.length : Int) - at_) = (loseN D at_ n : Nat) := by unfold loseN mn; split <;> omega
  have hk1 : at_.toNat + loseN D at_ n ≤ D.held.length := by unfold loseN mn; split <;> omega
  unfold loseD
  have hm := fun W => min_run n ((D.held.length : Int) - at_) W
  rw [hk0] at hm
  clear hk0
  obtain ⟨k, hkk⟩ : ∃ k, k = loseN D at_ n := ⟨_, rfl⟩
  rw [← hkk] at hk1 hm ⊢
  clear hkk
  obtain ⟨p, rfl⟩ := Int.eq_ofNat_of_zero_le h0
  rw [Int.toNat_natCast] at hk1 ⊢
  have ok := h.ok
  have hr1 := ok.r1
  have hh1 := ok.h1
  have hl0 := ok.cl0
  obtain ⟨A, c, rfl, hrd⟩ := h.slice
  obtain ⟨q0, -, -, -, -, -⟩ := h.dcells
  obtain ⟨q1, -⟩ := h.bcells
  have hcap : D.held.length ≤ c := own_cap h.o
  obtain ⟨ht1, ht2⟩ := take_run A c D.held p (by omega) hcap
  obtain ⟨A', hd1, hd2⟩ := drop_run A c D.held (p + k) hk1 hcap
  rw [Int.natCast_add] at hd1
  have HT := Lib.hid ht2
  have HD := Lib.hid hd2
  have hl1 : (D.held.take p).length ≤ 4194304 := by rw [List.length_take]; omega
  have hl2 : (D.held.drop (p + k)).length ≤ 4194304 := by rw [List.length_drop]; omega
  have hl3 : ((D.held.take p ++ D.held.drop (p + k)).length : Int) ≤ D.room := by rw [List.length_append, List.length_take, List.length_drop]; omega
  have hne : ∀ q, FD gd gb (.slice A D.held.length c) q → q < w.heap.size := fun q hq => (h.fd q hq).2
  obtain ⟨Y1, hY1⟩ : ∃ Y1, Y1 = D.held.take p := ⟨_, rfl⟩
  obtain ⟨Y2, hY2⟩ : ∃ Y2, Y2 = D.held.drop (p + k) := ⟨_, rfl⟩
  rw [← hY1, ← hY2] at hl3 ⊢
  rw [← hY1] at ht1 HT hl1
  rw [← hY2] at hd1 HD hl2
  clear hY1 hY2 ht2 hd2 hrd ok
  have HH := Lib.hid h
  have hP1 : Pk w w B gd gb (.slice A D.held.length c) D := ⟨h, Below.refl _ _⟩
  have h2 : ¬ (p : Int) < 0 := by omega
  have hsum : IntKind.i64.wrap ((p : Int) + (k : Int)) = (p : Int) + (k : Int) := by rw [IntKind.wrap_i64]; omega
  go_enter Try.func22, Try.ntmps22
  go_wp2_with (first | (go_at_call 25; go_must (refine (made_yes B gd gb _ D _ HH.out).mono ?_); rintro e w' ⟨rfl, rfl⟩))
  refine start_ (n := 29) (S := fun w' => w'.cell? ⟨gd, 0, none⟩ = some (.pointer (some ⟨gb, 0, none⟩)) ∧ w'.cell? ⟨gb, 0, none⟩ = some (.slice A D.held.length c) ∧ Pk w w' B gd gb (.slice A D.held.length c) D) (ds := [28]) #[false, false, false, false, false, false, false, false, false, false, false, false, false, false, false, false, false, false, false, false, false, false, false, false, false, false, false, false, false] (by kernel_rfl) rfl rfl ⟨q0, q1, hP1.drewN 1⟩ (fun hHeld => ?_)
  refine pure_ (i := 0) (N := some 42) (v := ?_) (a' := ?_) #[true, false, false, false, false, false, false, false, false, false, false, false, false, false, false, false, false, false, false, false, false, false, false, false, false, false, false, false, false] rfl rfl (by kernel_rfl) (fun _ _ _ h => h) (Or.inl ⟨by rfl, ?_⟩) ?_ ?_
  rotate_left
  · intro w'
    go_simp
    with_reducible rfl
  rotate_left
  · simp only [Act.put, List.setIfInBounds_toArray, List.set_cons_zero, List.set_cons_succ, i64_w, i32_w]
    rfl
  refine pure_ (i := 1) (N := some 43) (v := ?_) (a' := ?_) #[true, true, false, false, false, false, false, false, false, false, false, false, false, false, false, false, false, false, false, false, false, false, false, false, false, false, false, false, false] rfl rfl (by kernel_rfl) (fun _ _ _ h => h) (Or.inl ⟨by rfl, ?_⟩) ?_ ?_
  rotate_left
  · intro w'
    go_simp
    with_reducible rfl
  rotate_left
  · simp only [Act.put, List.setIfInBounds_toArray, List.set_cons_zero, List.set_cons_succ, i64_w, i32_w]
    rfl
  refine pure_ (i := 2) (N := some 44) (v := ?_) (a' := ?_) #[true, true, true, false, false, false, false, false, false, false, false, false, false, false, false, false, false, false, false, false, false, false, false, false, false, false, false, false, false] rfl rfl (by kernel_rfl) (fun _ _ _ h => h) (Or.inl ⟨by rfl, ?_⟩) ?_ ?_
  rotate_left
  · intro w'
    go_simp
    with_reducible rfl
  rotate_left
  · simp only [Act.put, List.setIfInBounds_toArray, List.set_cons_zero, List.set_cons_succ, i64_w, i32_w]
    rfl
  refine pure_ (i := 4) (N := some 46) (v := ?_) (a' := ?_) #[true, true, true, false, true, false, false, false, false, false, false, false, false, false, false, false, false, false, false, false, false, false, false, false, false, false, false, false, false] rfl rfl (by kernel_rfl) (fun _ _ _ h => h) (Or.inl ⟨by rfl, ?_⟩) ?_ ?_
  rotate_left
  · intro w'
    go_simp
    with_reducible rfl
  rotate_left
  · simp only [Act.put, List.setIfInBounds_toArray, List.set_cons_zero, List.set_cons_succ, i64_w, i32_w]
    rfl
  refine pure_ (i := 5) (N := some 47) (v := ?_) (a' := ?_) #[true, true, true, false, true, true, false, false, false, false, false, false, false, false, false, false, false, false, false, false, false, false, false, false, false, false, false, false, false] rfl rfl (by kernel_rfl) (fun _ _ _ h => h) (Or.inl ⟨by rfl, ?_⟩) ?_ ?_
  rotate_left
  · intro w'
    go_simp
    with_reducible rfl
  rotate_left
  · simp only [Act.put, List.setIfInBounds_toArray, List.set_cons_zero, List.set_cons_succ, i64_w, i32_w]
    rfl
  refine pure_ (i := 6) (N := some 48) (v := ?_) (a' := ?_) #[true, true, true, false, true, true, true, false, false, false, false, false, false, false, false, false, false, false, false, false, false, false, false, false, false, false, false, false, false] rfl rfl (by kernel_rfl) (fun _ _ _ h => h) (Or.inl ⟨by rfl, ?_⟩) ?_ ?_
  rotate_left
  · intro w'
    go_simp
    with_reducible rfl
  rotate_left
  · simp only [Act.put, List.setIfInBounds_toArray, List.set_cons_zero, List.set_cons_succ, i64_w, i32_w]
    rfl
  refine pure_ (i := 11) (N := some 53) (v := ?_) (a' := ?_) #[true, true, true, false, true, true, true, false, false, false, false, true, false, false, false, false, false, false, false, false, false, false, false, false, false, false, false, false, false] rfl rfl (by kernel_rfl) (fun _ _ _ h => h) (Or.inl ⟨by rfl, ?_⟩) ?_ ?_
  rotate_left
  · intro w'
    go_simp
    with_reducible rfl
  rotate_left
  · simp only [Act.put, List.setIfInBounds_toArray, List.set_cons_zero, List.set_cons_succ, i64_w, i32_w]
    rfl
  refine pure_ (i := 14) (N := some 56) (v := ?_) (a' := ?_) #[true, true, true, false, true, true, true, false, false, false, false, true, false, false, true, false, false, false, false, false, false, false, false, false, false, false, false, false, false] rfl rfl (by kernel_rfl) (fun _ _ _ h => h) (Or.inl ⟨by rfl, ?_⟩) ?_ ?_
  rotate_left
  · intro w'
    go_simp
    with_reducible rfl
  rotate_left
  · simp only [Act.put, List.setIfInBounds_toArray, List.set_cons_zero, List.set_cons_succ, i64_w, i32_w]
    rfl
  refine pure_ (i := 15) (N := some 57) (v := ?_) (a' := ?_) #[true, true, true, false, true, true, true, false, false, false, false, true, false, false, true, true, false, false, false, false, false, false, false, false, false, false, false, false, false] rfl rfl (by kernel_rfl) (fun _ _ _ h => h) (Or.inl ⟨by rfl, ?_⟩) ?_ ?_
  rotate_left
  · intro w'
    go_simp
    with_reducible rfl
  rotate_left
  · simp only [Act.put, List.setIfInBounds_toArray, List.set_cons_zero, List.set_cons_succ, i64_w, i32_w]
    rfl
  refine pure_ (i := 16) (N := some 58) (v := ?_) (a' := ?_) #[true, true, true, false, true, true, true, false, false, false, false, true, false, false, true, true, true, false, false, false, false, false, false, false, false, false, false, false, false] rfl rfl (by kernel_rfl) (fun _ _ _ h => h) (Or.inl ⟨by rfl, ?_⟩) ?_ ?_
  rotate_left
  · intro w'
    go_simp
    with_reducible rfl
  rotate_left
  · simp only [Act.put, List.setIfInBounds_toArray, List.set_cons_zero, List.set_cons_succ, i64_w, i32_w]
    rfl
  refine pure_ (i := 21) (N := some 63) (v := ?_) (a' := ?_) #[true, true, true, false, true, true, true, false, false, false, false, true, false, false, true, true, true, false, false, false, false, true, false, false, false, false, false, false, false] rfl rfl (by kernel_rfl) (fun _ _ _ h => h) (Or.inl ⟨by rfl, ?_⟩) ?_ ?_
  rotate_left
  · intro w'
    go_simp
    with_reducible rfl
  rotate_left
  · simp only [Act.put, List.setIfInBounds_toArray, List.set_cons_zero, List.set_cons_succ, i64_w, i32_w]
    rfl
  refine pure_ (i := 22) (N := some 64) (v := ?_) (a' := ?_) #[true, true, true, false, true, true, true, false, false, false, false, true, false, false, true, true, true, false, false, false, false, true, true, false, false, false, false, false, false] rfl rfl (by kernel_rfl) (fun _ _ _ h => h) (Or.inl ⟨by rfl, ?_⟩) ?_ ?_
  rotate_left
  · intro w'
    go_simp
    with_reducible rfl
  rotate_left
  · simp only [Act.put, List.setIfInBounds_toArray, List.set_cons_zero, List.set_cons_succ, i64_w, i32_w]
    rfl
  refine pure_ (i := 23) (N := some 65) (v := ?_) (a' := ?_) #[true, true, true, false, true, true, true, false, false, false, false, true, false, false, true, true, true, false, false, false, false, true, true, true, false, false, false, false, false] rfl rfl (by kernel_rfl) (fun _ _ _ h => h) (Or.inl ⟨by rfl, ?_⟩) ?_ ?_
  rotate_left
  · intro w'
    go_simp
    with_reducible rfl
  rotate_left
  · simp only [Act.put, List.setIfInBounds_toArray, List.set_cons_zero, List.set_cons_succ, i64_w, i32_w]
    rfl
  refine take_ (i := 3) (N := some 45) (v := ?_) (a' := ?_) #[true, true, true, true, true, true, true, false, false, false, false, true, false, false, true, true, true, false, false, false, false, true, true, true, false, false, false, false, false] rfl rfl (by kernel_rfl) (fun _ _ _ h => h) (Or.inl ⟨by rfl, ?_⟩) hHeld ?_ ?_
  rotate_left
  · rintro w' ⟨s0, s1, s2⟩
    go_simp
    with_reducible rfl
  rotate_left
  · simp only [Act.put, List.setIfInBounds_toArray, List.set_cons_zero, List.set_cons_succ, i64_w, i32_w]
    rfl
  refine take_ (i := 7) (N := some 49) (v := ?_) (a' := ?_) #[true, true, true, true, true, true, true, true, false, false, false, true, false, false, true, true, true, false, false, false, false, true, true, true, false, false, false, false, false] rfl rfl (by kernel_rfl) (fun _ _ _ h => h) (Or.inl ⟨by rfl, ?_⟩) hHeld ?_ ?_
  rotate_left
  · rintro w' ⟨s0, s1, s2⟩
    go_simp
    with_reducible rfl
  rotate_left
  · simp only [Act.put, List.setIfInBounds_toArray, List.set_cons_zero, List.set_cons_succ, i64_w, i32_w]
    rfl
  refine pure_ (i := 8) (N := some 50) (v := ?_) (a' := ?_) #[true, true, true, true, true, true, true, true, true, false, false, true, false, false, true, true, true, false, false, false, false, true, true, true, false, false, false, false, false] rfl rfl (by kernel_rfl) (fun _ _ _ h => h) (Or.inl ⟨by rfl, ?_⟩) ?_ ?_
  rotate_left
  · intro w'
    go_simp
    with_reducible rfl
  rotate_left
  · simp only [Act.put, List.setIfInBounds_toArray, List.set_cons_zero, List.set_cons_succ, i64_w, i32_w]
    rfl
  refine pure_ (i := 9) (N := some 51) (v := ?_) (a' := ?_) #[true, true, true, true, true, true, true, true, true, true, false, true, false, false, true, true, true, false, false, false, false, true, true, true, false, false, false, false, false] rfl rfl (by kernel_rfl) (fun _ _ _ h => h) (Or.inl ⟨by rfl, ?_⟩) ?_ ?_
  rotate_left
  · intro w'
    go_simp
    with_reducible rfl
  rotate_left
  · simp only [Act.put, List.setIfInBounds_toArray, List.set_cons_zero, List.set_cons_succ, i64_w, i32_w]
    rfl
  refine take_ (i := 10) (N := some 52) (v := ?_) (a' := ?_) #[true, true, true, true, true, true, true, true, true, true, true, true, false, false, true, true, true, false, false, false, false, true, true, true, false, false, false, false, false] rfl rfl (by kernel_rfl) (fun _ _ _ h => h) (Or.inl ⟨by rfl, ?_⟩) hHeld ?_ ?_
  rotate_left
  · rintro w' ⟨s0, s1, s2⟩
    go_simp
    with_reducible rfl
  rotate_left
  · simp only [Act.put, List.setIfInBounds_toArray, List.set_cons_zero, List.set_cons_succ, i64_w, i32_w]
    rfl
  refine pure_ (i := 12) (N := some 54) (v := ?_) (a' := ?_) #[true, true, true, true, true, true, true, true, true, true, true, true, true, false, true, true, true, false, false, false, false, true, true, true, false, false, false, false, false] rfl rfl (by kernel_rfl) (fun _ _ _ h => h) (Or.inl ⟨by rfl, ?_⟩) ?_ ?_
  rotate_left
  · intro w'
    go_simp
    with_reducible rfl
  rotate_left
  · simp only [Act.put, List.setIfInBounds_toArray, List.set_cons_zero, List.set_cons_succ, i64_w, i32_w]
    rfl
  refine take_ (i := 17) (N := some 59) (v := ?_) (a' := ?_) #[true, true, true, true, true, true, true, true, true, true, true, true, true, false, true, true, true, true, false, false, false, true, true, true, false, false, false, false, false] rfl rfl (by kernel_rfl) (fun _ _ _ h => h) (Or.inl ⟨by rfl, ?_⟩) hHeld ?_ ?_
  rotate_left
  · rintro w' ⟨s0, s1, s2⟩
    go_simp
    with_reducible rfl
  rotate_left
  · simp only [Act.put, List.setIfInBounds_toArray, List.set_cons_zero, List.set_cons_succ, i64_w, i32_w]
    rfl
  refine pure_ (i := 18) (N := some 60) (v := ?_) (a' := ?_) #[true, true, true, true, true, true, true, true, true, true, true, true, true, false, true, true, true, true, true, false, false, true, true, true, false, false, false, false, false] rfl rfl (by kernel_rfl) (fun _ _ _ h => h) (Or.inl ⟨by rfl, ?_⟩) ?_ ?_
  rotate_left
  · intro w'
    go_simp
    with_reducible rfl
  rotate_left
  · simp only [Act.put, List.setIfInBounds_toArray, List.set_cons_zero, List.set_cons_succ, i64_w, i32_w]
    rfl
  refine pure_ (i := 19) (N := some 61) (v := ?_) (a' := ?_) #[true, true, true, true, true, true, true, true, true, true, true, true, true, false, true, true, true, true, true, true, false, true, true, true, false, false, false, false, false] rfl rfl (by kernel_rfl) (fun _ _ _ h => h) (Or.inl ⟨by rfl, ?_⟩) ?_ ?_
  rotate_left
  · intro w'
    go_simp
    with_reducible rfl
  rotate_left
  · simp only [Act.put, List.setIfInBounds_toArray, List.set_cons_zero, List.set_cons_succ, i64_w, i32_w]
    rfl
  refine take_ (i := 20) (N := some 62) (v := ?_) (a' := ?_) #[true, true, true, true, true, true, true, true, true, true, true, true, true, false, true, true, true, true, true, true, true, true, true, true, false, false, false, false, false] rfl rfl (by kernel_rfl) (fun _ _ _ h => h) (Or.inl ⟨by rfl, ?_⟩) hHeld ?_ ?_
  rotate_left
  · rintro w' ⟨s0, s1, s2⟩
    go_simp
    with_reducible rfl
  rotate_left
  · simp only [Act.put, List.setIfInBounds_toArray, List.set_cons_zero, List.set_cons_succ, i64_w, i32_w]
    rfl
  refine pure_ (i := 24) (N := some 66) (v := ?_) (a' := ?_) #[true, true, true, true, true, true, true, true, true, true, true, true, true, false, true, true, true, true, true, true, true, true, true, true, true, false, false, false, false] rfl rfl (by kernel_rfl) (fun _ _ _ h => h) (Or.inl ⟨by rfl, ?_⟩) ?_ ?_
  rotate_left
  · intro w'
    go_simp
    with_reducible rfl
  rotate_left
  · simp only [Act.put, List.setIfInBounds_toArray, List.set_cons_zero, List.set_cons_succ, i64_w, i32_w]
    rfl
  refine one_ (i := 13) (N := some 55) #[true, true, true, true, true, true, true, true, true, true, true, true, true, true, true, true, true, true, true, true, true, true, true, true, true, false, false, false, false] rfl rfl (by kernel_rfl) (by decide) (fun K hK => ?_)
  refine step_app (B := w.heap.size) rfl (.const (.slice none 0 0)) (.tmp 54) rfl (.slice none 0 0) [] Y1 A c rfl rfl (own_nil _ _ _ _) (HT.out _ (own_reads' hHeld.2.2.d.o)) hHeld.2.2.bel.size (by simp; omega) ?_
  intro v2 w2 ho2 hg2 hn2
  rw [List.nil_append] at ho2
  have hP2 := hHeld.2.2.below (below_of_none hg2.out)
  obtain ⟨A2, c2, rfl, _⟩ := own_rd ho2.out
  clear hHeld hn2 hg2
  refine hK.out _ _ ⟨hP2.d.dcells.1, hP2.d.bcells.1, hP2⟩ (fun hHeld => ?_)
  clear hK K
  refine norm_ (a' := ?_) ?_ ?_
  rotate_left
  · show Act.put _ (some 55) _ = _
    simp only [Act.put, List.setIfInBounds_toArray, List.set_cons_zero, List.set_cons_succ, i64_w, i32_w]
    rfl
  refine one_ (i := 25) (N := some 67) #[true, true, true, true, true, true, true, true, true, true, true, true, true, true, true, true, true, true, true, true, true, true, true, true, true, true, false, false, false] rfl rfl (by kernel_rfl) (by decide) (fun K hK => ?_)
  refine step_app (B := w.heap.size) rfl (.tmp 55) (.tmp 66) rfl (.slice A2 Y1.length c2) Y1 Y2 A' (c - (p + k)) rfl rfl ho2.out (HD.out _ (own_reads' hHeld.2.2.d.o)) hHeld.2.2.bel.size (by omega) ?_
  intro v3 w3 ho3 hg3 hn3
  obtain ⟨Y3, hY3⟩ : ∃ Y3, Y3 = Y1 ++ Y2 := ⟨_, rfl⟩
  rw [← hY3] at ho3 hl3
  replace hY3 := Lib.hid hY3
  have hP3 := hHeld.2.2.grownRow ho2.out hg3.out hne
  have hfz := blk_frozen hP3.d.b 0
  obtain ⟨A3, c3, rfl, _⟩ := own_rd ho3.out
  clear hHeld hn3 hg3
  refine hK.out _ _ ⟨hP3.d.dcells.1, hP3.d.bcells.1, hP3⟩ (fun hHeld => ?_)
  clear hK K
  refine norm_ (a' := ?_) ?_ ?_
  rotate_left
  · show Act.put _ (some 67) _ = _
    simp only [Act.put, List.setIfInBounds_toArray, List.set_cons_zero, List.set_cons_succ, i64_w, i32_w]
    rfl
  refine pure_ (i := 26) (N := some 68) (v := ?_) (a' := ?_) #[true, true, true, true, true, true, true, true, true, true, true, true, true, true, true, true, true, true, true, true, true, true, true, true, true, true, true, false, false] rfl rfl (by kernel_rfl) (fun _ _ _ h => h) (Or.inl ⟨by rfl, ?_⟩) ?_ ?_
  rotate_left
  · intro w'
    go_simp
    with_reducible rfl
  rotate_left
  · simp only [Act.put, List.setIfInBounds_toArray, List.set_cons_zero, List.set_cons_succ, i64_w, i32_w]
    rfl
  refine pure_ (i := 27) (N := some 69) (v := ?_) (a' := ?_) #[true, true, true, true, true, true, true, true, true, true, true, true, true, true, true, true, true, true, true, true, true, true, true, true, true, true, true, true, false] rfl rfl (by kernel_rfl) (fun _ _ _ h => h) (Or.inl ⟨by rfl, ?_⟩) ?_ ?_
  rotate_left
  · intro w'
    go_simp
    with_reducible rfl
  rotate_left
  · simp only [Act.put, List.setIfInBounds_toArray, List.set_cons_zero, List.set_cons_succ, i64_w, i32_w]
    rfl
  refine last_ (i := 28) (N := none) #[true, true, true, true, true, true, true, true, true, true, true, true, true, true, true, true, true, true, true, true, true, true, true, true, true, true, true, true, true] rfl rfl (by kernel_rfl) (by decide) (fun K hK => ?_)
  have c0 := hP3.d.bcells.1
  refine skip_ (w1 := ?_) (by rfl) rfl ?_ ?_
  rotate_left
  · go_simp
    rfl
  refine hK.out _ _ ?_
  clear hK K
  refine done_ (by kernel_rfl) ?_
  have hBw : B ≤ w.heap.size := by have := HH.out.fd gd (.inl rfl); omega
  have hD3 := hP3.d.setHeld ho3.out hBw hl3
  have hC3 : Chg w (w3.setCell ⟨gb, 0, none⟩ (.slice A3 Y3.length c3)) (FD gd gb (.slice A D.held.length c)) := (Chg.of_below hP3.bel _).set_ (.inr (.inl rfl)) _
  have hN3 : Nx w (.slice A D.held.length c) (.slice A3 Y3.length c3) := Nx.new ho3.out (Nat.le_refl _)
  clear ho3 hP3 hHeld HH hfz c0 hP1 q0 q1 ho2 h hP2
  generalize w3.setCell ⟨gb, 0, none⟩ (.slice A3 Y3.length c3) = w4 at hD3 hC3 ⊢
  obtain ⟨-, -, -, -, -, q5⟩ := hD3.dcells
  have hfz := blk_frozen hD3.d 5
  have hD4 := Lib.hid (hD3.setCl (D.cl + (k : Int)) (by omega) (by omega))
  replace hC3 := Lib.hid (hC3.set_ (p := ⟨gd, 5, none⟩) (.inl rfl) (.int .i64 (D.cl + (k : Int))))
  replace hN3 := Lib.hid hN3
  dsimp only at q5
  go_wp2_with fail
  go_ret2
  rw [← hY3.out]
  exact ⟨rfl, _, hD4.out, hN3.out, hC3.out⟩
end Go.Proofs.Ytingiihboibcdaa.D
