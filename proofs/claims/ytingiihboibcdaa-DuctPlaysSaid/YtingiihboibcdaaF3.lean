/- The contract of Lose of the document's duct. -/
import Derived.Test.YtingiihboibcdaaF2
namespace Go.Proofs.Ytingiihboibcdaa.D
open Go.RowKit Go.Proofs.YtingiihboibcdaaW.PrintWords Go.Proofs.YtingiihboibcdaaW.PrintLast Go.Proofs.YtingiihboibcdaaW.PrintMore
set_option linter.unusedSimpArgs false
structure RPk (w W : World) (B gq : Nat) (v : Value) (D : DS) : Prop where
  d : RD W B gq v D
  bel : Below w.heap.size w W
section
variable {w W W' : World} {B gq : Nat} {v : Value} {D : DS}
theorem RPk.drewN (h : RPk w W B gq v D) (k : Nat) : RPk w (W.drewN k) B gq v D := ⟨h.d.drewN k, pw_below_drewN h.bel k⟩
theorem RPk.below (h : RPk w W B gq v D) (hb : Below W.heap.size W W') : RPk w W' B gq v D := ⟨h.d.below hb, below_step h.bel hb⟩
theorem RPk.grownRow (h : RPk w W B gq v D) {u : Value} {l : List Int} (ho : Own W w.heap.size u l) (hg : W.grownBy W' u.ownBlock) (hne : ∀ q, FQ gq v q → q < w.heap.size) : RPk w W' B gq v D :=
  ⟨h.d.chg (Chg.of_grown hg) (fun k hk he => by have h1 := hne k hk; have h2 := own_base ho k he.symm; omega), h.bel.grown hg h.bel.size (own_base ho)⟩
end
variable (B gq : Nat) (v : Value) (D : DS) (w : World)
set_option maxHeartbeats 2000000 in
theorem RLose_good (at_ n : Int) (h : RD w B gq v D) (h0 : 0 ≤ at_) (h1 : at_ ≤ (D.held.length : Int)) (hn : 0 ≤ n) (hcl : D.cl + 4194304 ≤ 9223372036854775807) :
    Calls Try.prog 33 #[.pointer (some ⟨gq, 0, none⟩), .int .i64 at_, .int .i64 n] w fun e w' => e = .returned (.tuple #[.int .i64 (loseN D at_ n : Nat), .int .i64 0]) ∧ ∃ v1, RD w' B gq v1 (loseD D at_ n) ∧ Nx w v v1 ∧ Chg w w' (FQ gq v) := by
  have hk1 : at_.toNat + loseN D at_ n ≤ D.held.length := by unfold loseN mn; split <;> omega
  have hk0 : (D.held.length : Int) - at_ < n ∧ (D.held.length : Int) - at_ = (loseN D at_ n : Nat) ∨ ¬ (D.held.length : Int) - at_ < n ∧ n = (loseN D at_ n : Nat) := by unfold loseN mn; split <;> omega
  unfold loseD
  obtain ⟨k, hkk⟩ : ∃ k, k = loseN D at_ n := ⟨_, rfl⟩
  rw [← hkk] at hk1 hk0 ⊢
  clear hkk
  obtain ⟨p, rfl⟩ := Int.eq_ofNat_of_zero_le h0
  rw [Int.toNat_natCast] at hk1 ⊢
  have ok := h.ok
  have hr1 := ok.r1
  have hh1 := ok.h1
  have hl0 := ok.cl0
  have hcap : ∀ A c, v = .slice A D.held.length c → D.held.length ≤ c := fun A c e => by have := h.o; rw [e] at this; exact own_cap this
  obtain ⟨A, c, rfl, hrd⟩ := h.slice
  replace hcap := hcap A c rfl
  obtain ⟨-, q1, -, -, -, -, -⟩ := h.cells
  obtain ⟨ht1, ht2⟩ := take_run A c D.held p (by omega) hcap
  obtain ⟨A', hd1, hd2⟩ := drop_run A c D.held (p + k) hk1 hcap
  rw [Int.natCast_add] at hd1
  have HT := Lib.hid ht2
  have HD := Lib.hid hd2
  have hl1 : (D.held.take p).length ≤ 4194304 := by rw [List.length_take]; omega
  have hl2 : (D.held.drop (p + k)).length ≤ 4194304 := by rw [List.length_drop]; omega
  have hl3 : ((D.held.take p ++ D.held.drop (p + k)).length : Int) ≤ D.room := by rw [List.length_append, List.length_take, List.length_drop]; omega
  have hne : ∀ q, FQ gq (.slice A D.held.length c) q → q < w.heap.size := fun q hq => (h.fq q hq).2
  obtain ⟨Y1, hY1⟩ : ∃ Y1, Y1 = D.held.take p := ⟨_, rfl⟩
  obtain ⟨Y2, hY2⟩ : ∃ Y2, Y2 = D.held.drop (p + k) := ⟨_, rfl⟩
  rw [← hY1, ← hY2] at hl3 ⊢
  rw [← hY1] at ht1 HT hl1
  rw [← hY2] at hd1 HD hl2
  clear hY1 hY2 ht2 hd2 hrd ok
  have HH := Lib.hid h
  have hP1 : RPk w w B gq (.slice A D.held.length c) D := ⟨h, Below.refl _ _⟩
  have h2 : ¬ (p : Int) < 0 := by omega
  have hsum : IntKind.i64.wrap ((p : Int) + (k : Int)) = (p : Int) + (k : Int) := by rw [IntKind.wrap_i64]; omega
  rcases hk0 with ⟨hgt, hke⟩ | ⟨hgt, rfl⟩
  · replace hke := Lib.hid hke
    go_enter Try.func33, Try.ntmps33
    go_wp2_with fail
    rw [hke.out]
    refine start_ (n := 20) (S := fun w' => w'.cell? ⟨gq, 1, none⟩ = some (.slice A D.held.length c) ∧ RPk w w' B gq (.slice A D.held.length c) D) (ds := [19]) #[false, false, false, false, false, false, false, false, false, false, false, false, false, false, false, false, false, false, false, false] (by kernel_rfl) rfl rfl ⟨q1, hP1.drewN 1⟩ (fun hHeld => ?_)
    refine pure_ (i := 0) (N := some 37) (v := ?_) (a' := ?_) #[true, false, false, false, false, false, false, false, false, false, false, false, false, false, false, false, false, false, false, false] rfl rfl (by kernel_rfl) (fun _ _ _ h => h) (Or.inl ⟨by rfl, ?_⟩) ?_ ?_
    rotate_left
    · intro w'
      go_simp
      with_reducible rfl
    rotate_left
    · simp only [Act.put, List.setIfInBounds_toArray, List.set_cons_zero, List.set_cons_succ, i64_w, i32_w]
      rfl
    refine pure_ (i := 1) (N := some 38) (v := ?_) (a' := ?_) #[true, true, false, false, false, false, false, false, false, false, false, false, false, false, false, false, false, false, false, false] rfl rfl (by kernel_rfl) (fun _ _ _ h => h) (Or.inl ⟨by rfl, ?_⟩) ?_ ?_
    rotate_left
    · intro w'
      go_simp
      with_reducible rfl
    rotate_left
    · simp only [Act.put, List.setIfInBounds_toArray, List.set_cons_zero, List.set_cons_succ, i64_w, i32_w]
      rfl
    refine pure_ (i := 2) (N := some 39) (v := ?_) (a' := ?_) #[true, true, true, false, false, false, false, false, false, false, false, false, false, false, false, false, false, false, false, false] rfl rfl (by kernel_rfl) (fun _ _ _ h => h) (Or.inl ⟨by rfl, ?_⟩) ?_ ?_
    rotate_left
    · intro w'
      go_simp
      with_reducible rfl
    rotate_left
    · simp only [Act.put, List.setIfInBounds_toArray, List.set_cons_zero, List.set_cons_succ, i64_w, i32_w]
      rfl
    refine pure_ (i := 3) (N := some 40) (v := ?_) (a' := ?_) #[true, true, true, true, false, false, false, false, false, false, false, false, false, false, false, false, false, false, false, false] rfl rfl (by kernel_rfl) (fun _ _ _ h => h) (Or.inl ⟨by rfl, ?_⟩) ?_ ?_
    rotate_left
    · intro w'
      go_simp
      with_reducible rfl
    rotate_left
    · simp only [Act.put, List.setIfInBounds_toArray, List.set_cons_zero, List.set_cons_succ, i64_w, i32_w]
      rfl
    refine pure_ (i := 5) (N := some 42) (v := ?_) (a' := ?_) #[true, true, true, true, false, true, false, false, false, false, false, false, false, false, false, false, false, false, false, false] rfl rfl (by kernel_rfl) (fun _ _ _ h => h) (Or.inl ⟨by rfl, ?_⟩) ?_ ?_
    rotate_left
    · intro w'
      go_simp
      with_reducible rfl
    rotate_left
    · simp only [Act.put, List.setIfInBounds_toArray, List.set_cons_zero, List.set_cons_succ, i64_w, i32_w]
      rfl
    refine pure_ (i := 8) (N := some 45) (v := ?_) (a' := ?_) #[true, true, true, true, false, true, false, false, true, false, false, false, false, false, false, false, false, false, false, false] rfl rfl (by kernel_rfl) (fun _ _ _ h => h) (Or.inl ⟨by rfl, ?_⟩) ?_ ?_
    rotate_left
    · intro w'
      go_simp
      with_reducible rfl
    rotate_left
    · simp only [Act.put, List.setIfInBounds_toArray, List.set_cons_zero, List.set_cons_succ, i64_w, i32_w]
      rfl
    refine pure_ (i := 9) (N := some 46) (v := ?_) (a' := ?_) #[true, true, true, true, false, true, false, false, true, true, false, false, false, false, false, false, false, false, false, false] rfl rfl (by kernel_rfl) (fun _ _ _ h => h) (Or.inl ⟨by rfl, ?_⟩) ?_ ?_
    rotate_left
    · intro w'
      go_simp
      with_reducible rfl
    rotate_left
    · simp only [Act.put, List.setIfInBounds_toArray, List.set_cons_zero, List.set_cons_succ, i64_w, i32_w]
      rfl
    refine pure_ (i := 10) (N := some 47) (v := ?_) (a' := ?_) #[true, true, true, true, false, true, false, false, true, true, true, false, false, false, false, false, false, false, false, false] rfl rfl (by kernel_rfl) (fun _ _ _ h => h) (Or.inl ⟨by rfl, ?_⟩) ?_ ?_
    rotate_left
    · intro w'
      go_simp
      with_reducible rfl
    rotate_left
    · simp only [Act.put, List.setIfInBounds_toArray, List.set_cons_zero, List.set_cons_succ, i64_w, i32_w]
      rfl
    refine pure_ (i := 12) (N := some 49) (v := ?_) (a' := ?_) #[true, true, true, true, false, true, false, false, true, true, true, false, true, false, false, false, false, false, false, false] rfl rfl (by kernel_rfl) (fun _ _ _ h => h) (Or.inl ⟨by rfl, ?_⟩) ?_ ?_
    rotate_left
    · intro w'
      go_simp
      with_reducible rfl
    rotate_left
    · simp only [Act.put, List.setIfInBounds_toArray, List.set_cons_zero, List.set_cons_succ, i64_w, i32_w]
      rfl
    refine pure_ (i := 13) (N := some 50) (v := ?_) (a' := ?_) #[true, true, true, true, false, true, false, false, true, true, true, false, true, true, false, false, false, false, false, false] rfl rfl (by kernel_rfl) (fun _ _ _ h => h) (Or.inl ⟨by rfl, ?_⟩) ?_ ?_
    rotate_left
    · intro w'
      go_simp
      with_reducible rfl
    rotate_left
    · simp only [Act.put, List.setIfInBounds_toArray, List.set_cons_zero, List.set_cons_succ, i64_w, i32_w]
      rfl
    refine pure_ (i := 14) (N := some 51) (v := ?_) (a' := ?_) #[true, true, true, true, false, true, false, false, true, true, true, false, true, true, true, false, false, false, false, false] rfl rfl (by kernel_rfl) (fun _ _ _ h => h) (Or.inl ⟨by rfl, ?_⟩) ?_ ?_
    rotate_left
    · intro w'
      go_simp
      with_reducible rfl
    rotate_left
    · simp only [Act.put, List.setIfInBounds_toArray, List.set_cons_zero, List.set_cons_succ, i64_w, i32_w]
      rfl
    refine take_ (i := 4) (N := some 41) (v := ?_) (a' := ?_) #[true, true, true, true, true, true, false, false, true, true, true, false, true, true, true, false, false, false, false, false] rfl rfl (by kernel_rfl) (fun _ _ _ h => h) (Or.inl ⟨by rfl, ?_⟩) hHeld ?_ ?_
    rotate_left
    · rintro w' ⟨s0, s1⟩
      go_simp
      with_reducible rfl
    rotate_left
    · simp only [Act.put, List.setIfInBounds_toArray, List.set_cons_zero, List.set_cons_succ, i64_w, i32_w]
      rfl
    refine pure_ (i := 6) (N := some 43) (v := ?_) (a' := ?_) #[true, true, true, true, true, true, true, false, true, true, true, false, true, true, true, false, false, false, false, false] rfl rfl (by kernel_rfl) (fun _ _ _ h => h) (Or.inl ⟨by rfl, ?_⟩) ?_ ?_
    rotate_left
    · intro w'
      go_simp
      with_reducible rfl
    rotate_left
    · simp only [Act.put, List.setIfInBounds_toArray, List.set_cons_zero, List.set_cons_succ, i64_w, i32_w]
      rfl
    refine take_ (i := 11) (N := some 48) (v := ?_) (a' := ?_) #[true, true, true, true, true, true, true, false, true, true, true, true, true, true, true, false, false, false, false, false] rfl rfl (by kernel_rfl) (fun _ _ _ h => h) (Or.inl ⟨by rfl, ?_⟩) hHeld ?_ ?_
    rotate_left
    · rintro w' ⟨s0, s1⟩
      go_simp
      with_reducible rfl
    rotate_left
    · simp only [Act.put, List.setIfInBounds_toArray, List.set_cons_zero, List.set_cons_succ, i64_w, i32_w]
      rfl
    refine pure_ (i := 15) (N := some 52) (v := ?_) (a' := ?_) #[true, true, true, true, true, true, true, false, true, true, true, true, true, true, true, true, false, false, false, false] rfl rfl (by kernel_rfl) (fun _ _ _ h => h) (Or.inl ⟨by rfl, ?_⟩) ?_ ?_
    rotate_left
    · intro w'
      go_simp
      with_reducible rfl
    rotate_left
    · simp only [Act.put, List.setIfInBounds_toArray, List.set_cons_zero, List.set_cons_succ, i64_w, i32_w]
      rfl
    refine one_ (i := 7) (N := some 44) #[true, true, true, true, true, true, true, true, true, true, true, true, true, true, true, true, false, false, false, false] rfl rfl (by kernel_rfl) (by decide) (fun K hK => ?_)
    refine step_app (B := w.heap.size) rfl (.const (.slice none 0 0)) (.tmp 43) rfl (.slice none 0 0) [] Y1 A c rfl rfl (own_nil _ _ _ _) (HT.out _ (own_reads' hHeld.2.d.o)) hHeld.2.bel.size (by simp; omega) ?_
    intro v2 w2 ho2 hg2 hn2
    rw [List.nil_append] at ho2
    have hP2 := hHeld.2.below (below_of_none hg2.out)
    obtain ⟨A2, c2, rfl, _⟩ := own_rd ho2.out
    clear hHeld hn2 hg2
    refine hK.out _ _ ⟨hP2.d.cells.2.1, hP2⟩ (fun hHeld => ?_)
    clear hK K
    refine norm_ (a' := ?_) ?_ ?_
    rotate_left
    · show Act.put _ (some 44) _ = _
      simp only [Act.put, List.setIfInBounds_toArray, List.set_cons_zero, List.set_cons_succ, i64_w, i32_w]
      rfl
    refine one_ (i := 16) (N := some 53) #[true, true, true, true, true, true, true, true, true, true, true, true, true, true, true, true, true, false, false, false] rfl rfl (by kernel_rfl) (by decide) (fun K hK => ?_)
    refine step_app (B := w.heap.size) rfl (.tmp 44) (.tmp 52) rfl (.slice A2 Y1.length c2) Y1 Y2 A' (c - (p + k)) rfl rfl ho2.out (HD.out _ (own_reads' hHeld.2.d.o)) hHeld.2.bel.size (by omega) ?_
    intro v3 w3 ho3 hg3 hn3
    obtain ⟨Y3, hY3⟩ : ∃ Y3, Y3 = Y1 ++ Y2 := ⟨_, rfl⟩
    rw [← hY3] at ho3 hl3
    replace hY3 := Lib.hid hY3
    have hP3 := hHeld.2.grownRow ho2.out hg3.out hne
    have hfz := blk_frozen hP3.d.q 1
    obtain ⟨A3, c3, rfl, _⟩ := own_rd ho3.out
    clear hHeld hn3 hg3
    refine hK.out _ _ ⟨hP3.d.cells.2.1, hP3⟩ (fun hHeld => ?_)
    clear hK K
    refine norm_ (a' := ?_) ?_ ?_
    rotate_left
    · show Act.put _ (some 53) _ = _
      simp only [Act.put, List.setIfInBounds_toArray, List.set_cons_zero, List.set_cons_succ, i64_w, i32_w]
      rfl
    refine pure_ (i := 17) (N := some 54) (v := ?_) (a' := ?_) #[true, true, true, true, true, true, true, true, true, true, true, true, true, true, true, true, true, true, false, false] rfl rfl (by kernel_rfl) (fun _ _ _ h => h) (Or.inl ⟨by rfl, ?_⟩) ?_ ?_
    rotate_left
    · intro w'
      go_simp
      with_reducible rfl
    rotate_left
    · simp only [Act.put, List.setIfInBounds_toArray, List.set_cons_zero, List.set_cons_succ, i64_w, i32_w]
      rfl
    refine pure_ (i := 18) (N := some 55) (v := ?_) (a' := ?_) #[true, true, true, true, true, true, true, true, true, true, true, true, true, true, true, true, true, true, true, false] rfl rfl (by kernel_rfl) (fun _ _ _ h => h) (Or.inl ⟨by rfl, ?_⟩) ?_ ?_
    rotate_left
    · intro w'
      go_simp
      with_reducible rfl
    rotate_left
    · simp only [Act.put, List.setIfInBounds_toArray, List.set_cons_zero, List.set_cons_succ, i64_w, i32_w]
      rfl
    refine last_ (i := 19) (N := none) #[true, true, true, true, true, true, true, true, true, true, true, true, true, true, true, true, true, true, true, true] rfl rfl (by kernel_rfl) (by decide) (fun K hK => ?_)
    have c0 := hP3.d.cells.2.1
    refine skip_ (w1 := ?_) (by rfl) rfl ?_ ?_
    rotate_left
    · go_simp
      rfl
    refine hK.out _ _ ?_
    clear hK K
    refine done_ (by kernel_rfl) ?_
    have hBw : B ≤ w.heap.size := by have := HH.out.fq gq (.inl rfl); omega
    have hD3 := hP3.d.setHeld ho3.out hBw hl3
    have hC3 : Chg w (w3.setCell ⟨gq, 1, none⟩ (.slice A3 Y3.length c3)) (FQ gq (.slice A D.held.length c)) := (Chg.of_below hP3.bel _).set_ (.inl rfl) _
    have hN3 : Nx w (.slice A D.held.length c) (.slice A3 Y3.length c3) := Nx.new ho3.out (Nat.le_refl _)
    clear ho3 hP3 hHeld HH hfz c0 hP1 q1 ho2 h hP2
    generalize w3.setCell ⟨gq, 1, none⟩ (.slice A3 Y3.length c3) = w4 at hD3 hC3 ⊢
    obtain ⟨-, -, -, -, -, -, q6⟩ := hD3.cells
    have hfz := blk_frozen hD3.q 6
    have hD4 := Lib.hid (hD3.setCl (D.cl + (k : Int)) (by omega) (by omega))
    replace hC3 := Lib.hid (hC3.set_ (p := ⟨gq, 6, none⟩) (.inl rfl) (.int .i64 (D.cl + (k : Int))))
    replace hN3 := Lib.hid hN3
    dsimp only at q6
    go_wp2_with fail
    go_ret2
    rw [← hY3.out]
    exact ⟨rfl, _, hD4.out, hN3.out, hC3.out⟩
  · go_enter Try.func33, Try.ntmps33
    go_wp2_with fail
    refine start_ (n := 20) (S := fun w' => w'.cell? ⟨gq, 1, none⟩ = some (.slice A D.held.length c) ∧ RPk w w' B gq (.slice A D.held.length c) D) (ds := [19]) #[false, false, false, false, false, false, false, false, false, false, false, false, false, false, false, false, false, false, false, false] (by kernel_rfl) rfl rfl ⟨q1, hP1.drewN 1⟩ (fun hHeld => ?_)
    refine pure_ (i := 0) (N := some 37) (v := ?_) (a' := ?_) #[true, false, false, false, false, false, false, false, false, false, false, false, false, false, false, false, false, false, false, false] rfl rfl (by kernel_rfl) (fun _ _ _ h => h) (Or.inl ⟨by rfl, ?_⟩) ?_ ?_
    rotate_left
    · intro w'
      go_simp
      with_reducible rfl
    rotate_left
    · simp only [Act.put, List.setIfInBounds_toArray, List.set_cons_zero, List.set_cons_succ, i64_w, i32_w]
      rfl
    refine pure_ (i := 1) (N := some 38) (v := ?_) (a' := ?_) #[true, true, false, false, false, false, false, false, false, false, false, false, false, false, false, false, false, false, false, false] rfl rfl (by kernel_rfl) (fun _ _ _ h => h) (Or.inl ⟨by rfl, ?_⟩) ?_ ?_
    rotate_left
    · intro w'
      go_simp
      with_reducible rfl
    rotate_left
    · simp only [Act.put, List.setIfInBounds_toArray, List.set_cons_zero, List.set_cons_succ, i64_w, i32_w]
      rfl
    refine pure_ (i := 2) (N := some 39) (v := ?_) (a' := ?_) #[true, true, true, false, false, false, false, false, false, false, false, false, false, false, false, false, false, false, false, false] rfl rfl (by kernel_rfl) (fun _ _ _ h => h) (Or.inl ⟨by rfl, ?_⟩) ?_ ?_
    rotate_left
    · intro w'
      go_simp
      with_reducible rfl
    rotate_left
    · simp only [Act.put, List.setIfInBounds_toArray, List.set_cons_zero, List.set_cons_succ, i64_w, i32_w]
      rfl
    refine pure_ (i := 3) (N := some 40) (v := ?_) (a' := ?_) #[true, true, true, true, false, false, false, false, false, false, false, false, false, false, false, false, false, false, false, false] rfl rfl (by kernel_rfl) (fun _ _ _ h => h) (Or.inl ⟨by rfl, ?_⟩) ?_ ?_
    rotate_left
    · intro w'
      go_simp
      with_reducible rfl
    rotate_left
    · simp only [Act.put, List.setIfInBounds_toArray, List.set_cons_zero, List.set_cons_succ, i64_w, i32_w]
      rfl
    refine pure_ (i := 5) (N := some 42) (v := ?_) (a' := ?_) #[true, true, true, true, false, true, false, false, false, false, false, false, false, false, false, false, false, false, false, false] rfl rfl (by kernel_rfl) (fun _ _ _ h => h) (Or.inl ⟨by rfl, ?_⟩) ?_ ?_
    rotate_left
    · intro w'
      go_simp
      with_reducible rfl
    rotate_left
    · simp only [Act.put, List.setIfInBounds_toArray, List.set_cons_zero, List.set_cons_succ, i64_w, i32_w]
      rfl
    refine pure_ (i := 8) (N := some 45) (v := ?_) (a' := ?_) #[true, true, true, true, false, true, false, false, true, false, false, false, false, false, false, false, false, false, false, false] rfl rfl (by kernel_rfl) (fun _ _ _ h => h) (Or.inl ⟨by rfl, ?_⟩) ?_ ?_
    rotate_left
    · intro w'
      go_simp
      with_reducible rfl
    rotate_left
    · simp only [Act.put, List.setIfInBounds_toArray, List.set_cons_zero, List.set_cons_succ, i64_w, i32_w]
      rfl
    refine pure_ (i := 9) (N := some 46) (v := ?_) (a' := ?_) #[true, true, true, true, false, true, false, false, true, true, false, false, false, false, false, false, false, false, false, false] rfl rfl (by kernel_rfl) (fun _ _ _ h => h) (Or.inl ⟨by rfl, ?_⟩) ?_ ?_
    rotate_left
    · intro w'
      go_simp
      with_reducible rfl
    rotate_left
    · simp only [Act.put, List.setIfInBounds_toArray, List.set_cons_zero, List.set_cons_succ, i64_w, i32_w]
      rfl
    refine pure_ (i := 10) (N := some 47) (v := ?_) (a' := ?_) #[true, true, true, true, false, true, false, false, true, true, true, false, false, false, false, false, false, false, false, false] rfl rfl (by kernel_rfl) (fun _ _ _ h => h) (Or.inl ⟨by rfl, ?_⟩) ?_ ?_
    rotate_left
    · intro w'
      go_simp
      with_reducible rfl
    rotate_left
    · simp only [Act.put, List.setIfInBounds_toArray, List.set_cons_zero, List.set_cons_succ, i64_w, i32_w]
      rfl
    refine pure_ (i := 12) (N := some 49) (v := ?_) (a' := ?_) #[true, true, true, true, false, true, false, false, true, true, true, false, true, false, false, false, false, false, false, false] rfl rfl (by kernel_rfl) (fun _ _ _ h => h) (Or.inl ⟨by rfl, ?_⟩) ?_ ?_
    rotate_left
    · intro w'
      go_simp
      with_reducible rfl
    rotate_left
    · simp only [Act.put, List.setIfInBounds_toArray, List.set_cons_zero, List.set_cons_succ, i64_w, i32_w]
      rfl
    refine pure_ (i := 13) (N := some 50) (v := ?_) (a' := ?_) #[true, true, true, true, false, true, false, false, true, true, true, false, true, true, false, false, false, false, false, false] rfl rfl (by kernel_rfl) (fun _ _ _ h => h) (Or.inl ⟨by rfl, ?_⟩) ?_ ?_
    rotate_left
    · intro w'
      go_simp
      with_reducible rfl
    rotate_left
    · simp only [Act.put, List.setIfInBounds_toArray, List.set_cons_zero, List.set_cons_succ, i64_w, i32_w]
      rfl
    refine pure_ (i := 14) (N := some 51) (v := ?_) (a' := ?_) #[true, true, true, true, false, true, false, false, true, true, true, false, true, true, true, false, false, false, false, false] rfl rfl (by kernel_rfl) (fun _ _ _ h => h) (Or.inl ⟨by rfl, ?_⟩) ?_ ?_
    rotate_left
    · intro w'
      go_simp
      with_reducible rfl
    rotate_left
    · simp only [Act.put, List.setIfInBounds_toArray, List.set_cons_zero, List.set_cons_succ, i64_w, i32_w]
      rfl
    refine take_ (i := 4) (N := some 41) (v := ?_) (a' := ?_) #[true, true, true, true, true, true, false, false, true, true, true, false, true, true, true, false, false, false, false, false] rfl rfl (by kernel_rfl) (fun _ _ _ h => h) (Or.inl ⟨by rfl, ?_⟩) hHeld ?_ ?_
    rotate_left
    · rintro w' ⟨s0, s1⟩
      go_simp
      with_reducible rfl
    rotate_left
    · simp only [Act.put, List.setIfInBounds_toArray, List.set_cons_zero, List.set_cons_succ, i64_w, i32_w]
      rfl
    refine pure_ (i := 6) (N := some 43) (v := ?_) (a' := ?_) #[true, true, true, true, true, true, true, false, true, true, true, false, true, true, true, false, false, false, false, false] rfl rfl (by kernel_rfl) (fun _ _ _ h => h) (Or.inl ⟨by rfl, ?_⟩) ?_ ?_
    rotate_left
    · intro w'
      go_simp
      with_reducible rfl
    rotate_left
    · simp only [Act.put, List.setIfInBounds_toArray, List.set_cons_zero, List.set_cons_succ, i64_w, i32_w]
      rfl
    refine take_ (i := 11) (N := some 48) (v := ?_) (a' := ?_) #[true, true, true, true, true, true, true, false, true, true, true, true, true, true, true, false, false, false, false, false] rfl rfl (by kernel_rfl) (fun _ _ _ h => h) (Or.inl ⟨by rfl, ?_⟩) hHeld ?_ ?_
    rotate_left
    · rintro w' ⟨s0, s1⟩
      go_simp
      with_reducible rfl
    rotate_left
    · simp only [Act.put, List.setIfInBounds_toArray, List.set_cons_zero, List.set_cons_succ, i64_w, i32_w]
      rfl
    refine pure_ (i := 15) (N := some 52) (v := ?_) (a' := ?_) #[true, true, true, true, true, true, true, false, true, true, true, true, true, true, true, true, false, false, false, false] rfl rfl (by kernel_rfl) (fun _ _ _ h => h) (Or.inl ⟨by rfl, ?_⟩) ?_ ?_
    rotate_left
    · intro w'
      go_simp
      with_reducible rfl
    rotate_left
    · simp only [Act.put, List.setIfInBounds_toArray, List.set_cons_zero, List.set_cons_succ, i64_w, i32_w]
      rfl
    refine one_ (i := 7) (N := some 44) #[true, true, true, true, true, true, true, true, true, true, true, true, true, true, true, true, false, false, false, false] rfl rfl (by kernel_rfl) (by decide) (fun K hK => ?_)
    refine step_app (B := w.heap.size) rfl (.const (.slice none 0 0)) (.tmp 43) rfl (.slice none 0 0) [] Y1 A c rfl rfl (own_nil _ _ _ _) (HT.out _ (own_reads' hHeld.2.d.o)) hHeld.2.bel.size (by simp; omega) ?_
    intro v2 w2 ho2 hg2 hn2
    rw [List.nil_append] at ho2
    have hP2 := hHeld.2.below (below_of_none hg2.out)
    obtain ⟨A2, c2, rfl, _⟩ := own_rd ho2.out
    clear hHeld hn2 hg2
    refine hK.out _ _ ⟨hP2.d.cells.2.1, hP2⟩ (fun hHeld => ?_)
    clear hK K
    refine norm_ (a' := ?_) ?_ ?_
    rotate_left
    · show Act.put _ (some 44) _ = _
      simp only [Act.put, List.setIfInBounds_toArray, List.set_cons_zero, List.set_cons_succ, i64_w, i32_w]
      rfl
    refine one_ (i := 16) (N := some 53) #[true, true, true, true, true, true, true, true, true, true, true, true, true, true, true, true, true, false, false, false] rfl rfl (by kernel_rfl) (by decide) (fun K hK => ?_)
    refine step_app (B := w.heap.size) rfl (.tmp 44) (.tmp 52) rfl (.slice A2 Y1.length c2) Y1 Y2 A' (c - (p + k)) rfl rfl ho2.out (HD.out _ (own_reads' hHeld.2.d.o)) hHeld.2.bel.size (by omega) ?_
    intro v3 w3 ho3 hg3 hn3
    obtain ⟨Y3, hY3⟩ : ∃ Y3, Y3 = Y1 ++ Y2 := ⟨_, rfl⟩
    rw [← hY3] at ho3 hl3
    replace hY3 := Lib.hid hY3
    have hP3 := hHeld.2.grownRow ho2.out hg3.out hne
    have hfz := blk_frozen hP3.d.q 1
    obtain ⟨A3, c3, rfl, _⟩ := own_rd ho3.out
    clear hHeld hn3 hg3
    refine hK.out _ _ ⟨hP3.d.cells.2.1, hP3⟩ (fun hHeld => ?_)
    clear hK K
    refine norm_ (a' := ?_) ?_ ?_
    rotate_left
    · show Act.put _ (some 53) _ = _
      simp only [Act.put, List.setIfInBounds_toArray, List.set_cons_zero, List.set_cons_succ, i64_w, i32_w]
      rfl
    refine pure_ (i := 17) (N := some 54) (v := ?_) (a' := ?_) #[true, true, true, true, true, true, true, true, true, true, true, true, true, true, true, true, true, true, false, false] rfl rfl (by kernel_rfl) (fun _ _ _ h => h) (Or.inl ⟨by rfl, ?_⟩) ?_ ?_
    rotate_left
    · intro w'
      go_simp
      with_reducible rfl
    rotate_left
    · simp only [Act.put, List.setIfInBounds_toArray, List.set_cons_zero, List.set_cons_succ, i64_w, i32_w]
      rfl
    refine pure_ (i := 18) (N := some 55) (v := ?_) (a' := ?_) #[true, true, true, true, true, true, true, true, true, true, true, true, true, true, true, true, true, true, true, false] rfl rfl (by kernel_rfl) (fun _ _ _ h => h) (Or.inl ⟨by rfl, ?_⟩) ?_ ?_
    rotate_left
    · intro w'
      go_simp
      with_reducible rfl
    rotate_left
    · simp only [Act.put, List.setIfInBounds_toArray, List.set_cons_zero, List.set_cons_succ, i64_w, i32_w]
      rfl
    refine last_ (i := 19) (N := none) #[true, true, true, true, true, true, true, true, true, true, true, true, true, true, true, true, true, true, true, true] rfl rfl (by kernel_rfl) (by decide) (fun K hK => ?_)
    have c0 := hP3.d.cells.2.1
    refine skip_ (w1 := ?_) (by rfl) rfl ?_ ?_
    rotate_left
    · go_simp
      rfl
    refine hK.out _ _ ?_
    clear hK K
    refine done_ (by kernel_rfl) ?_
    have hBw : B ≤ w.heap.size := by have := HH.out.fq gq (.inl rfl); omega
    have hD3 := hP3.d.setHeld ho3.out hBw hl3
    have hC3 : Chg w (w3.setCell ⟨gq, 1, none⟩ (.slice A3 Y3.length c3)) (FQ gq (.slice A D.held.length c)) := (Chg.of_below hP3.bel _).set_ (.inl rfl) _
    have hN3 : Nx w (.slice A D.held.length c) (.slice A3 Y3.length c3) := Nx.new ho3.out (Nat.le_refl _)
    clear ho3 hP3 hHeld HH hfz c0 hP1 q1 ho2 h hP2
    generalize w3.setCell ⟨gq, 1, none⟩ (.slice A3 Y3.length c3) = w4 at hD3 hC3 ⊢
    obtain ⟨-, -, -, -, -, -, q6⟩ := hD3.cells
    have hfz := blk_frozen hD3.q 6
    have hD4 := Lib.hid (hD3.setCl (D.cl + (k : Int)) (by omega) (by omega))
    replace hC3 := Lib.hid (hC3.set_ (p := ⟨gq, 6, none⟩) (.inl rfl) (.int .i64 (D.cl + (k : Int))))
    replace hN3 := Lib.hid hN3
    dsimp only at q6
    go_wp2_with fail
    go_ret2
    rw [← hY3.out]
    exact ⟨rfl, _, hD4.out, hN3.out, hC3.out⟩
end Go.Proofs.Ytingiihboibcdaa.D
