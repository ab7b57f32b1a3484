/- The contract of Read of a duct that New gave. -/
import Derived.Test.YtingiihboibcdaaD3
namespace Go.Proofs.Ytingiihboibcdaa.D
open Go.RowKit Go.Proofs.YtingiihboibcdaaW.PrintWords Go.Proofs.YtingiihboibcdaaW.PrintLast Go.Proofs.YtingiihboibcdaaW.PrintMore
theorem set_row {w : World} {g : Nat} {t : TypeId} {cs : Array Value} (h : w.heap[g]? = some (.cells cs t (0, 0))) (i : Nat) (u : Value) (cs' : Array Value) (e : cs.setIfInBounds i u = cs') : (w.setCell ⟨g, i, none⟩ u).heap[g]? = some (.cells cs' t (0, 0)) := by
  subst e
  exact blk_set h i u
/-- held is stored anew -/
theorem Duct.setHeld {W : World} {B gd gb : Nat} {v v1 : Value} {D : DS} {l : List Int} (h : Duct W B gd gb v D) {B1 : Nat} (ho : Own W B1 v1 l) (hB : B ≤ B1) (hl : (l.length : Int) ≤ D.room) : Duct (W.setCell ⟨gb, 0, none⟩ v1) B gd gb v1 { D with held := l } :=
  ⟨blk_far h.d (p := ⟨gb, 0, none⟩) h.ne _, set_row h.b 0 v1 _ rfl, own_setCell (ho.lower hB) (p := ⟨gb, 0, none⟩) (own_ne ho h.b (by decide)) _, h.bd, h.bb, ⟨h.ok.1, h.ok.2, hl, h.ok.4, h.ok.5, h.ok.6, h.ok.7, h.ok.8, h.ok.9, h.ok.10, h.ok.11⟩⟩
/-- a count is stored anew -/
theorem Duct.setCo {W : World} {B gd gb : Nat} {v : Value} {D : DS} (h : Duct W B gd gb v D) (x : Int) (h0 : 0 ≤ x) (h1 : x ≤ 9223372036854775807) : Duct (W.setCell ⟨gd, 3, none⟩ (.int .i64 x)) B gd gb v { D with co := x } :=
  ⟨set_row h.d 3 _ _ rfl, blk_far h.b (p := ⟨gd, 3, none⟩) h.ne.symm _, own_setCell h.o (p := ⟨gd, 3, none⟩) h.ned _, h.bd, h.bb, ⟨h.ok.1, h.ok.2, h.ok.3, h.ok.4, h.ok.5, h0, h1, h.ok.8, h.ok.9, h.ok.10, h.ok.11⟩⟩
theorem FD.nx {W : World} {gd gb : Nat} {v v1 : Value} (hn : Nx W v v1) : ∀ q, q < W.heap.size → FD gd gb v1 q → FD gd gb v q := by
  rintro q hq (h | h | h)
  · exact .inl h
  · exact .inr (.inl h)
  · rcases hn q h with h1 | h1
    · exact .inr (.inr h1)
    · omega
theorem Pk.drewN {w W : World} {B gd gb : Nat} {v : Value} {D : DS} (h : Pk w W B gd gb v D) (k : Nat) : Pk w (W.drewN k) B gd gb v D := ⟨h.d.drewN k, pw_below_drewN h.bel k⟩
theorem Pk.below {w W W' : World} {B gd gb : Nat} {v : Value} {D : DS} (h : Pk w W B gd gb v D) (hb : Below W.heap.size W W') : Pk w W' B gd gb v D := ⟨h.d.below hb, below_step h.bel hb⟩
theorem below_of_below3 {W W' : World} (hg : W.drew.grownBy W' (Value.slice none 0 0).ownBlock) : Below W.heap.size W W' := ⟨hg.os, hg.tape, hg.output, hg.size, fun k hk => hg.block k hk (by simp [Value.ownBlock])⟩
set_option linter.unusedSimpArgs false
variable (B gd gb : Nat) (v : Value) (D : DS) (w : World)
def readD (D : DS) (n : Int) : DS := { D with held := D.held.drop (firstN D n), co := D.co + firstN D n }
set_option maxHeartbeats 1000000 in
theorem Read_calls (n : Int) (h : Duct w B gd gb v D) (hco : D.co + 4194304 ≤ 9223372036854775807) :
    Calls Try.prog 10 #[.pointer (some ⟨gd, 0, none⟩), .int .i64 n] w fun e w' => ∃ v', e = .returned v' ∧ Own w' w.heap.size v' (D.held.take (firstN D n)) ∧ ∃ v1, Duct w' B gd gb v1 (readD D n) ∧ Nx w v v1 ∧ Chg w w' (FD gd gb v) := by
  have hk := firstN_le D n
  have hfc := first_calls B gd gb v D w n h
  have hpk := Peek_calls B gd gb v D w (firstN D n : Nat) h
  have hff : firstN D (firstN D n : Nat) = firstN D n := by unfold firstN mn mx at hk ⊢; repeat (first | omega | split)
  rw [hff] at hpk
  unfold readD
  obtain ⟨k, hkk⟩ : ∃ k, k = firstN D n := ⟨_, rfl⟩
  rw [← hkk] at hfc hk hpk ⊢
  clear hkk hff
  have hF := Lib.hid hfc
  have hP := Lib.hid hpk
  clear hfc hpk
  by_cases h0 : k = 0
  · subst h0
    go_enter Try.func10, Try.ntmps10
    go_wp2_with (first | (go_at_call 27; go_must (refine hF.out.mono ?_); rintro e w' ⟨rfl, rfl⟩))
    go_ret
    exact ⟨_, rfl, own_nil _ _ _ _, v, by simpa using h, Nx.refl _ _, Chg.refl _ _⟩
  · have h1 : ((k : Int) == 0) = false := by rw [beq_eq_false_iff_ne]; omega
    have ok := h.ok
    have hr1 := ok.r1
    have hh1 := ok.h1
    have hc0 := ok.co0
    obtain ⟨A, c, rfl, hrd⟩ := h.slice
    have hcap : D.held.length ≤ c := own_cap h.o
    obtain ⟨A', hsl, hsr⟩ := drop_run A c D.held k hk hcap
    have HSR := Lib.hid hsr
    have hll : (D.held.drop k).length ≤ 4194304 := by rw [List.length_drop]; omega
    have hlr : ((D.held.drop k).length : Int) ≤ D.room := by rw [List.length_drop]; omega
    obtain ⟨Y, hY⟩ : ∃ Y, Y = D.held.drop k := ⟨_, rfl⟩
    rw [← hY] at hsl HSR hll hlr ⊢
    replace hY := Lib.hid hY
    have HH := Lib.hid h
    clear hsr hrd ok
    go_enter Try.func10, Try.ntmps10
    go_wp2_with (first | (go_at_call 27; go_must (refine hF.out.mono ?_); rintro e w' ⟨rfl, rfl⟩) | (go_at_call 14; go_must (refine hP.out.mono ?_); rintro e w1 ⟨vr, rfl, hor, hbr⟩; replace hor := Lib.hid hor; replace hbr := Lib.hid hbr))
    have hP1 : Pk w w1 B gd gb (.slice A D.held.length c) D := ⟨HH.out.below hbr.out, hbr.out⟩
    obtain ⟨q0, -⟩ := hP1.d.dcells
    obtain ⟨q1, -⟩ := hP1.d.bcells
    refine start_ (n := 17) (S := fun w' => w'.cell? ⟨gd, 0, none⟩ = some (.pointer (some ⟨gb, 0, none⟩)) ∧ w'.cell? ⟨gb, 0, none⟩ = some (.slice A D.held.length c) ∧ Pk w w' B gd gb (.slice A D.held.length c) D) (ds := [16]) #[false, false, false, false, false, false, false, false, false, false, false, false, false, false, false, false, false] (by kernel_rfl) rfl rfl ⟨q0, q1, hP1.drewN 1⟩ (fun hHeld => ?_)
    refine pure_ (i := 0) (N := some 14) (v := ?_) (a' := ?_) #[true, false, false, false, false, false, false, false, false, false, false, false, false, false, false, false, false] rfl rfl (by kernel_rfl) (fun _ _ _ h => h) (Or.inl ⟨by rfl, ?_⟩) ?_ ?_
    rotate_left
    · intro w'
      go_simp
      with_reducible rfl
    rotate_left
    · simp only [Act.put, List.setIfInBounds_toArray, List.set_cons_zero, List.set_cons_succ, i64_w, i32_w]
      rfl
    refine pure_ (i := 1) (N := some 15) (v := ?_) (a' := ?_) #[true, true, false, false, false, false, false, false, false, false, false, false, false, false, false, false, false] rfl rfl (by kernel_rfl) (fun _ _ _ h => h) (Or.inl ⟨by rfl, ?_⟩) ?_ ?_
    rotate_left
    · intro w'
      go_simp
      with_reducible rfl
    rotate_left
    · simp only [Act.put, List.setIfInBounds_toArray, List.set_cons_zero, List.set_cons_succ, i64_w, i32_w]
      rfl
    refine pure_ (i := 2) (N := some 16) (v := ?_) (a' := ?_) #[true, true, true, false, false, false, false, false, false, false, false, false, false, false, false, false, false] rfl rfl (by kernel_rfl) (fun _ _ _ h => h) (Or.inl ⟨by rfl, ?_⟩) ?_ ?_
    rotate_left
    · intro w'
      go_simp
      with_reducible rfl
    rotate_left
    · simp only [Act.put, List.setIfInBounds_toArray, List.set_cons_zero, List.set_cons_succ, i64_w, i32_w]
      rfl
    refine pure_ (i := 4) (N := some 18) (v := ?_) (a' := ?_) #[true, true, true, false, true, false, false, false, false, false, false, false, false, false, false, false, false] rfl rfl (by kernel_rfl) (fun _ _ _ h => h) (Or.inl ⟨by rfl, ?_⟩) ?_ ?_
    rotate_left
    · intro w'
      go_simp
      with_reducible rfl
    rotate_left
    · simp only [Act.put, List.setIfInBounds_toArray, List.set_cons_zero, List.set_cons_succ, i64_w, i32_w]
      rfl
    refine pure_ (i := 5) (N := some 19) (v := ?_) (a' := ?_) #[true, true, true, false, true, true, false, false, false, false, false, false, false, false, false, false, false] rfl rfl (by kernel_rfl) (fun _ _ _ h => h) (Or.inl ⟨by rfl, ?_⟩) ?_ ?_
    rotate_left
    · intro w'
      go_simp
      with_reducible rfl
    rotate_left
    · simp only [Act.put, List.setIfInBounds_toArray, List.set_cons_zero, List.set_cons_succ, i64_w, i32_w]
      rfl
    refine pure_ (i := 6) (N := some 20) (v := ?_) (a' := ?_) #[true, true, true, false, true, true, true, false, false, false, false, false, false, false, false, false, false] rfl rfl (by kernel_rfl) (fun _ _ _ h => h) (Or.inl ⟨by rfl, ?_⟩) ?_ ?_
    rotate_left
    · intro w'
      go_simp
      with_reducible rfl
    rotate_left
    · simp only [Act.put, List.setIfInBounds_toArray, List.set_cons_zero, List.set_cons_succ, i64_w, i32_w]
      rfl
    refine pure_ (i := 11) (N := some 25) (v := ?_) (a' := ?_) #[true, true, true, false, true, true, true, false, false, false, false, true, false, false, false, false, false] rfl rfl (by kernel_rfl) (fun _ _ _ h => h) (Or.inl ⟨by rfl, ?_⟩) ?_ ?_
    rotate_left
    · intro w'
      go_simp
      with_reducible rfl
    rotate_left
    · simp only [Act.put, List.setIfInBounds_toArray, List.set_cons_zero, List.set_cons_succ, i64_w, i32_w]
      rfl
    refine take_ (i := 3) (N := some 17) (v := ?_) (a' := ?_) #[true, true, true, true, true, true, true, false, false, false, false, true, false, false, false, false, false] rfl rfl (by kernel_rfl) (fun _ _ _ h => h) (Or.inl ⟨by rfl, ?_⟩) hHeld ?_ ?_
    rotate_left
    · rintro w' ⟨s0, s1, s2⟩
      go_simp
      with_reducible rfl
    rotate_left
    · simp only [Act.put, List.setIfInBounds_toArray, List.set_cons_zero, List.set_cons_succ, i64_w, i32_w]
      rfl
    refine take_ (i := 7) (N := some 21) (v := ?_) (a' := ?_) #[true, true, true, true, true, true, true, true, false, false, false, true, false, false, false, false, false] rfl rfl (by kernel_rfl) (fun _ _ _ h => h) (Or.inl ⟨by rfl, ?_⟩) hHeld ?_ ?_
    rotate_left
    · rintro w' ⟨s0, s1, s2⟩
      go_simp
      with_reducible rfl
    rotate_left
    · simp only [Act.put, List.setIfInBounds_toArray, List.set_cons_zero, List.set_cons_succ, i64_w, i32_w]
      rfl
    refine pure_ (i := 8) (N := some 22) (v := ?_) (a' := ?_) #[true, true, true, true, true, true, true, true, true, false, false, true, false, false, false, false, false] rfl rfl (by kernel_rfl) (fun _ _ _ h => h) (Or.inl ⟨by rfl, ?_⟩) ?_ ?_
    rotate_left
    · intro w'
      go_simp
      with_reducible rfl
    rotate_left
    · simp only [Act.put, List.setIfInBounds_toArray, List.set_cons_zero, List.set_cons_succ, i64_w, i32_w]
      rfl
    refine pure_ (i := 9) (N := some 23) (v := ?_) (a' := ?_) #[true, true, true, true, true, true, true, true, true, true, false, true, false, false, false, false, false] rfl rfl (by kernel_rfl) (fun _ _ _ h => h) (Or.inl ⟨by rfl, ?_⟩) ?_ ?_
    rotate_left
    · intro w'
      go_simp
      with_reducible rfl
    rotate_left
    · simp only [Act.put, List.setIfInBounds_toArray, List.set_cons_zero, List.set_cons_succ, i64_w, i32_w]
      rfl
    refine take_ (i := 10) (N := some 24) (v := ?_) (a' := ?_) #[true, true, true, true, true, true, true, true, true, true, true, true, false, false, false, false, false] rfl rfl (by kernel_rfl) (fun _ _ _ h => h) (Or.inl ⟨by rfl, ?_⟩) hHeld ?_ ?_
    rotate_left
    · rintro w' ⟨s0, s1, s2⟩
      go_simp
      with_reducible rfl
    rotate_left
    · simp only [Act.put, List.setIfInBounds_toArray, List.set_cons_zero, List.set_cons_succ, i64_w, i32_w]
      rfl
    refine pure_ (i := 12) (N := some 26) (v := ?_) (a' := ?_) #[true, true, true, true, true, true, true, true, true, true, true, true, true, false, false, false, false] rfl rfl (by kernel_rfl) (fun _ _ _ h => h) (Or.inl ⟨by rfl, ?_⟩) ?_ ?_
    rotate_left
    · intro w'
      go_simp
      with_reducible rfl
    rotate_left
    · simp only [Act.put, List.setIfInBounds_toArray, List.set_cons_zero, List.set_cons_succ, i64_w, i32_w]
      rfl
    refine one_ (i := 13) (N := some 27) #[true, true, true, true, true, true, true, true, true, true, true, true, true, true, false, false, false] rfl rfl (by kernel_rfl) (by decide) (fun K hK => ?_)
    refine step_app (B := w.heap.size) rfl (.const (.slice none 0 0)) (.tmp 26) rfl (.slice none 0 0) [] Y A' (c - k) rfl rfl (own_nil _ _ _ _) (HSR.out _ (own_reads' hHeld.2.2.d.o)) hHeld.2.2.bel.size (by simp; omega) ?_
    intro v3 w3 ho3 hg3 hn3
    rw [List.nil_append] at ho3
    obtain ⟨A3, c3, rfl, _⟩ := own_rd ho3.out
    have hP3 := hHeld.2.2.below (below_of_none hg3.out)
    have hfz := blk_frozen hP3.d.b 0
    clear hHeld hn3
    refine hK.out _ _ ⟨hP3.d.dcells.1, hP3.d.bcells.1, hP3⟩ (fun hHeld => ?_)
    clear hK K
    refine norm_ (a' := ?_) ?_ ?_
    rotate_left
    · show Act.put _ (some 27) _ = _
      simp only [Act.put, List.setIfInBounds_toArray, List.set_cons_zero, List.set_cons_succ, i64_w, i32_w]
      rfl
    refine pure_ (i := 14) (N := some 28) (v := ?_) (a' := ?_) #[true, true, true, true, true, true, true, true, true, true, true, true, true, true, true, false, false] rfl rfl (by kernel_rfl) (fun _ _ _ h => h) (Or.inl ⟨by rfl, ?_⟩) ?_ ?_
    rotate_left
    · intro w'
      go_simp
      with_reducible rfl
    rotate_left
    · simp only [Act.put, List.setIfInBounds_toArray, List.set_cons_zero, List.set_cons_succ, i64_w, i32_w]
      rfl
    refine pure_ (i := 15) (N := some 29) (v := ?_) (a' := ?_) #[true, true, true, true, true, true, true, true, true, true, true, true, true, true, true, true, false] rfl rfl (by kernel_rfl) (fun _ _ _ h => h) (Or.inl ⟨by rfl, ?_⟩) ?_ ?_
    rotate_left
    · intro w'
      go_simp
      with_reducible rfl
    rotate_left
    · simp only [Act.put, List.setIfInBounds_toArray, List.set_cons_zero, List.set_cons_succ, i64_w, i32_w]
      rfl
    refine last_ (i := 16) (N := none) #[true, true, true, true, true, true, true, true, true, true, true, true, true, true, true, true, true] rfl rfl (by kernel_rfl) (by decide) (fun K hK => ?_)
    have c0 := hP3.d.bcells.1
    refine skip_ (w1 := ?_) (by rfl) rfl ?_ ?_
    rotate_left
    · go_simp
      rfl
    refine hK.out _ _ ?_
    clear hK K
    refine done_ (by kernel_rfl) ?_
    have hBw : B ≤ w.heap.size := by have := h.fd gd (.inl rfl); omega
    have hD3 := hP3.d.setHeld ho3.out hBw hlr
    have hor3 := own_setCell (Own.below hor.out (below_of_below3 hg3.out)) (p := ⟨gb, 0, none⟩) (own_ne (Own.below hor.out (below_of_below3 hg3.out)) hP3.d.b (by decide)) (.slice A3 Y.length c3)
    have hC3 : Chg w (w3.setCell ⟨gb, 0, none⟩ (.slice A3 Y.length c3)) (FD gd gb (.slice A D.held.length c)) := (Chg.of_below hP3.bel _).set_ (.inr (.inl rfl)) _
    have hN3 : Nx w (.slice A D.held.length c) (.slice A3 Y.length c3) := Nx.new ho3.out (Nat.le_refl _)
    clear hg3 ho3 hP3 hHeld hP hF h HH hfz c0 hbr hP1 q0 q1
    generalize w3.setCell ⟨gb, 0, none⟩ (.slice A3 Y.length c3) = w4 at hD3 hor3 hC3 ⊢
    obtain ⟨-, -, -, q3, -, -⟩ := hD3.dcells
    have hfz := blk_frozen hD3.d 3
    have hD4 := hD3.setCo (D.co + (k : Int)) (by omega) (by omega)
    replace hor3 := Lib.hid (own_setCell hor3 (p := ⟨gd, 3, none⟩) (own_ne hor3 hD3.d (by decide)) (.int .i64 (D.co + (k : Int))))
    replace hC3 := Lib.hid (hC3.set_ (p := ⟨gd, 3, none⟩) (.inl rfl) (.int .i64 (D.co + (k : Int))))
    dsimp only at q3
    go_wp2_with fail
    go_ret
    exact ⟨_, rfl, hor3.out, _, hD4, hN3, hC3.out⟩
end Go.Proofs.Ytingiihboibcdaa.D
