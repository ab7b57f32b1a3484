/- The contract of Write of a duct that New gave. -/
import Derived.Test.YtingiihboibcdaaD5
namespace Go.Proofs.Ytingiihboibcdaa.D
open Go.RowKit Go.Proofs.YtingiihboibcdaaW.PrintWords Go.Proofs.YtingiihboibcdaaW.PrintLast Go.Proofs.YtingiihboibcdaaW.PrintMore
set_option linter.unusedSimpArgs false
variable (B gd gb : Nat) (v : Value) (D : DS) (w : World)
/-- rows of bytes, read -/
def PartsRd (w : World) (A : Option Addr) (ps : List (List Int)) : Prop := ps.length ≤ 9223372036854775807 ∧ ∀ k, (hk : k < ps.length) → ∃ ad Ak ck, A = some ad ∧ w.cell? (ad.add k) = some (.slice Ak ps[k].length ck) ∧ ps[k].length ≤ ck ∧ Rd w Ak ps[k]
/-- what finds room goes in -/
def fill (room : Int) (held : List Int) : List (List Int) → List Int
  | [] => held
  | p :: r => fill room (held ++ p.take (room - held.length).toNat) r
theorem fill_snoc (room : Int) (ps : List (List Int)) (p : List Int) : ∀ held, fill room held (ps ++ [p]) = fill room held ps ++ p.take (room - (fill room held ps).length).toNat := by
  induction ps with
  | nil => intro held; rfl
  | cons q r ih => intro held; exact ih _
theorem fill_le (room : Int) (ps : List (List Int)) : ∀ held : List Int, (held.length : Int) ≤ room → held.length ≤ (fill room held ps).length ∧ ((fill room held ps).length : Int) ≤ room := by
  induction ps with
  | nil => intro held h; exact ⟨Nat.le_refl _, h⟩
  | cons p r ih =>
    intro held h
    have hl : (held ++ p.take (room - held.length).toNat).length ≤ room := by rw [List.length_append, List.length_take]; omega
    have := ih _ hl
    rw [List.length_append] at this
    exact ⟨Nat.le_trans (Nat.le_add_right _ _) this.1, this.2⟩
def writeD (D : DS) (ps : List (List Int)) : DS := { D with held := fill D.room D.held ps, ci := D.ci + ((fill D.room D.held ps).length - D.held.length) }
theorem Write_shut (A : Option Addr) (n c : Nat) (h : Duct w B gd gb v D) (hs : D.shut = true) :
    Calls Try.prog 8 #[.pointer (some ⟨gd, 0, none⟩), .slice A n c] w fun e w' => e = .returned (.tuple #[.int .i64 0, .int .i64 91]) ∧ w = w' := by
  obtain ⟨q0, q1, -, -, -, -⟩ := h.dcells
  rw [hs] at q1
  go_enter Try.func8, Try.ntmps8
  go_wp2_with (first | (go_at_call 25; go_must (refine (made_yes B gd gb _ D _ h).mono ?_); rintro e w' ⟨rfl, rfl⟩))
  go_ret2
  exact ⟨rfl, rfl⟩
set_option maxRecDepth 100000 in
set_option maxHeartbeats 2000000 in
theorem Write_calls (A0 : Option Addr) (c0 : Nat) (ps : List (List Int)) (h : Duct w B gd gb v D) (hs : D.shut = false) (hci : D.ci + 4194304 ≤ 9223372036854775807) (hp : ∀ W, Chg w W (FD gd gb v) → PartsRd W A0 ps) :
    Calls Try.prog 8 #[.pointer (some ⟨gd, 0, none⟩), .slice A0 ps.length c0] w fun e w' => e = .returned (.tuple #[.int .i64 ((fill D.room D.held ps).length - D.held.length), .int .i64 0]) ∧ ∃ v1, Duct w' B gd gb v1 (writeD D ps) ∧ Nx w v v1 ∧ Chg w w' (FD gd gb v) := by
  obtain ⟨q0, q1, -, -, -, -⟩ := h.dcells
  rw [hs] at q1
  have hmaxl := (hp w (Chg.refl _ _)).1
  have ok := h.ok
  have hr1 := ok.r1
  have hh1 := ok.h1
  have hci0 := ok.ci0
  have HH := Lib.hid h
  have HP := Lib.hid hp
  have hall := fill_le D.room ps D.held hh1
  clear h hp ok
  go_enter Try.func8, Try.ntmps8
  go_wp2_with (first | (go_at_call 25; go_must (refine (made_yes B gd gb _ D _ HH.out).mono ?_); rintro e w' ⟨rfl, rfl⟩))
  go_loopw [6, 21] (fun n i W => ∃ (k : Nat) (vk : Value), i = .int .i64 k ∧ k ≤ ps.length ∧ n = .int .i64 ((fill D.room D.held (ps.take k)).length - D.held.length) ∧ Hid (Duct W B gd gb vk { D with held := fill D.room D.held (ps.take k) }) ∧ Hid (Nx w v vk) ∧ Hid (Chg w W (FD gd gb v))) (fun _ i _ => ps.length - (intOf i).toNat)
  case atStart => exact ⟨0, v, rfl, by omega, by simp [fill], HH, Nx.refl _ _, Chg.refl _ _⟩
  case round =>
    obtain ⟨k, vk, rfl, hk, rfl, hD, hN, hC⟩ := hrel
    have hin := fill_le D.room (ps.take k) D.held hh1
    by_cases hlt : k < ps.length
    · obtain ⟨ad, Ap, cp, rfl, hcell, hcp, hpr⟩ := (HP.out _ hC.out).2 k hlt
      have HS : fill D.room D.held (ps.take (k + 1)) = fill D.room D.held (ps.take k) ++ ps[k].take (D.room - (fill D.room D.held (ps.take k)).length).toNat := by rw [List.take_succ_eq_append_getElem hlt]; exact fill_snoc D.room (ps.take k) ps[k] D.held
      obtain ⟨p, hpe⟩ : ∃ p, p = ps[k] := ⟨_, rfl⟩
      rw [← hpe] at hcell hcp hpr HS
      clear hpe
      obtain ⟨hk, hke⟩ : ∃ hk, hk = fill D.room D.held (ps.take k) := ⟨_, rfl⟩
      rw [← hke] at hD hin HS
      obtain ⟨m, hm0, hm1, hm2⟩ : ∃ m : Nat, mn (p.length : Int) (D.room - hk.length) = m ∧ m ≤ p.length ∧ p.take (D.room - hk.length).toNat = p.take m := by
        refine ⟨(mn (p.length : Int) (D.room - hk.length)).toNat, by unfold mn; split <;> omega, by unfold mn; split <;> omega, ?_⟩
        unfold mn
        split
        · rfl
        · rw [Int.toNat_natCast, List.take_length, List.take_of_length_le (by omega)]
      have hm3 : hk.length + m ≤ 4194304 ∧ ((hk.length + m : Nat) : Int) ≤ D.room := by unfold mn at hm0; split at hm0 <;> omega
      rw [hm2] at HS
      have hmin := fun W => min_run (p.length : Int) (D.room - hk.length) W
      rw [hm0] at hmin
      obtain ⟨hsl, hsr⟩ := take_run Ap cp p m hm1 hcp
      have HT := Lib.hid hsr
      have hyl : (p.take m).length = m := by rw [List.length_take]; omega
      obtain ⟨Y, hY⟩ : ∃ Y, Y = p.take m := ⟨_, rfl⟩
      rw [← hY] at hsl HT hyl HS
      replace hpr := Lib.hid hpr
      replace HS := Lib.hid HS
      have hyle : Y.length ≤ 4194304 := by omega
      have hkle : hk.length ≤ 4194304 := by omega
      have hlen2 : (hk ++ Y).length = hk.length + m := by rw [List.length_append, hyl]
      have hroom : ((hk ++ Y).length : Int) ≤ D.room := by rw [hlen2]; omega
      rw [← hke]
      replace hke := Lib.hid hke
      clear hm0 hm1 hm2 hsr hY hcp hin q0 q1
      obtain ⟨A, c, rfl, _⟩ := hD.out.slice
      obtain ⟨q0, -⟩ := hD.out.dcells
      obtain ⟨q1, q2⟩ := hD.out.bcells
      dsimp only at q0 q1 q2
      have hsub : IntKind.i64.wrap (D.room - (hk.length : Int)) = D.room - (hk.length : Int) := by rw [IntKind.wrap_i64]; omega
      have hlen2' := Lib.hid hlen2
      replace hyl := Lib.hid hyl
      go_wp2_with fail
      go_quiet (fail)
      go_wp2_with fail
      refine start_ (n := 18) (S := fun w' => w'.cell? ⟨gd, 0, none⟩ = some (.pointer (some ⟨gb, 0, none⟩)) ∧ w'.cell? ⟨gb, 0, none⟩ = some (.slice A hk.length c)) (ds := [17]) #[false, false, false, false, false, false, false, false, false, false, false, false, false, false, false, false, false, false] (by kernel_rfl) rfl rfl ⟨q0, q1⟩ (fun hHeld => ?_)
      refine pure_ (i := 0) (N := some 44) (v := ?_) (a' := ?_) #[true, false, false, false, false, false, false, false, false, false, false, false, false, false, false, false, false, false] rfl rfl (by kernel_rfl) (fun _ _ _ h => h) (Or.inl ⟨by rfl, ?_⟩) ?_ ?_
      rotate_left
      · intro w'
        go_simp
        with_reducible rfl
      rotate_left
      · simp only [Act.put, List.setIfInBounds_toArray, List.set_cons_zero, List.set_cons_succ, i64_w, i32_w]
        rfl
      refine pure_ (i := 1) (N := some 45) (v := ?_) (a' := ?_) #[true, true, false, false, false, false, false, false, false, false, false, false, false, false, false, false, false, false] rfl rfl (by kernel_rfl) (fun _ _ _ h => h) (Or.inl ⟨by rfl, ?_⟩) ?_ ?_
      rotate_left
      · intro w'
        go_simp
        with_reducible rfl
      rotate_left
      · simp only [Act.put, List.setIfInBounds_toArray, List.set_cons_zero, List.set_cons_succ, i64_w, i32_w]
        rfl
      refine pure_ (i := 2) (N := some 46) (v := ?_) (a' := ?_) #[true, true, true, false, false, false, false, false, false, false, false, false, false, false, false, false, false, false] rfl rfl (by kernel_rfl) (fun _ _ _ h => h) (Or.inl ⟨by rfl, ?_⟩) ?_ ?_
      rotate_left
      · intro w'
        go_simp
        with_reducible rfl
      rotate_left
      · simp only [Act.put, List.setIfInBounds_toArray, List.set_cons_zero, List.set_cons_succ, i64_w, i32_w]
        rfl
      refine pure_ (i := 4) (N := some 48) (v := ?_) (a' := ?_) #[true, true, true, false, true, false, false, false, false, false, false, false, false, false, false, false, false, false] rfl rfl (by kernel_rfl) (fun _ _ _ h => h) (Or.inl ⟨by rfl, ?_⟩) ?_ ?_
      rotate_left
      · intro w'
        go_simp
        with_reducible rfl
      rotate_left
      · simp only [Act.put, List.setIfInBounds_toArray, List.set_cons_zero, List.set_cons_succ, i64_w, i32_w]
        rfl
      refine pure_ (i := 5) (N := some 49) (v := ?_) (a' := ?_) #[true, true, true, false, true, true, false, false, false, false, false, false, false, false, false, false, false, false] rfl rfl (by kernel_rfl) (fun _ _ _ h => h) (Or.inl ⟨by rfl, ?_⟩) ?_ ?_
      rotate_left
      · intro w'
        go_simp
        with_reducible rfl
      rotate_left
      · simp only [Act.put, List.setIfInBounds_toArray, List.set_cons_zero, List.set_cons_succ, i64_w, i32_w]
        rfl
      refine pure_ (i := 6) (N := some 50) (v := ?_) (a' := ?_) #[true, true, true, false, true, true, true, false, false, false, false, false, false, false, false, false, false, false] rfl rfl (by kernel_rfl) (fun _ _ _ h => h) (Or.inl ⟨by rfl, ?_⟩) ?_ ?_
      rotate_left
      · intro w'
        go_simp
        with_reducible rfl
      rotate_left
      · simp only [Act.put, List.setIfInBounds_toArray, List.set_cons_zero, List.set_cons_succ, i64_w, i32_w]
        rfl
      refine pure_ (i := 11) (N := some 55) (v := ?_) (a' := ?_) #[true, true, true, false, true, true, true, false, false, false, false, true, false, false, false, false, false, false] rfl rfl (by kernel_rfl) (fun _ _ _ h => h) (Or.inl ⟨by rfl, ?_⟩) ?_ ?_
      rotate_left
      · intro w'
        go_simp
        with_reducible rfl
      rotate_left
      · simp only [Act.put, List.setIfInBounds_toArray, List.set_cons_zero, List.set_cons_succ, i64_w, i32_w]
        rfl
      refine pure_ (i := 12) (N := some 56) (v := ?_) (a' := ?_) #[true, true, true, false, true, true, true, false, false, false, false, true, true, false, false, false, false, false] rfl rfl (by kernel_rfl) (fun _ _ _ h => h) (Or.inl ⟨by rfl, ?_⟩) ?_ ?_
      rotate_left
      · intro w'
        go_simp
        with_reducible rfl
      rotate_left
      · simp only [Act.put, List.setIfInBounds_toArray, List.set_cons_zero, List.set_cons_succ, i64_w, i32_w]
        rfl
      refine pure_ (i := 13) (N := some 57) (v := ?_) (a' := ?_) #[true, true, true, false, true, true, true, false, false, false, false, true, true, true, false, false, false, false] rfl rfl (by kernel_rfl) (fun _ _ _ h => h) (Or.inl ⟨by rfl, ?_⟩) ?_ ?_
      rotate_left
      · intro w'
        go_simp
        with_reducible rfl
      rotate_left
      · simp only [Act.put, List.setIfInBounds_toArray, List.set_cons_zero, List.set_cons_succ, i64_w, i32_w]
        rfl
      refine take_ (i := 3) (N := some 47) (v := ?_) (a' := ?_) #[true, true, true, true, true, true, true, false, false, false, false, true, true, true, false, false, false, false] rfl rfl (by kernel_rfl) (fun _ _ _ h => h) (Or.inl ⟨by rfl, ?_⟩) hHeld ?_ ?_
      rotate_left
      · rintro w' ⟨s0, s1⟩
        go_simp
        with_reducible rfl
      rotate_left
      · simp only [Act.put, List.setIfInBounds_toArray, List.set_cons_zero, List.set_cons_succ, i64_w, i32_w]
        rfl
      refine take_ (i := 7) (N := some 51) (v := ?_) (a' := ?_) #[true, true, true, true, true, true, true, true, false, false, false, true, true, true, false, false, false, false] rfl rfl (by kernel_rfl) (fun _ _ _ h => h) (Or.inl ⟨by rfl, ?_⟩) hHeld ?_ ?_
      rotate_left
      · rintro w' ⟨s0, s1⟩
        go_simp
        with_reducible rfl
      rotate_left
      · simp only [Act.put, List.setIfInBounds_toArray, List.set_cons_zero, List.set_cons_succ, i64_w, i32_w]
        rfl
      refine pure_ (i := 8) (N := some 52) (v := ?_) (a' := ?_) #[true, true, true, true, true, true, true, true, true, false, false, true, true, true, false, false, false, false] rfl rfl (by kernel_rfl) (fun _ _ _ h => h) (Or.inl ⟨by rfl, ?_⟩) ?_ ?_
      rotate_left
      · intro w'
        go_simp
        with_reducible rfl
      rotate_left
      · simp only [Act.put, List.setIfInBounds_toArray, List.set_cons_zero, List.set_cons_succ, i64_w, i32_w]
        rfl
      refine pure_ (i := 9) (N := some 53) (v := ?_) (a' := ?_) #[true, true, true, true, true, true, true, true, true, true, false, true, true, true, false, false, false, false] rfl rfl (by kernel_rfl) (fun _ _ _ h => h) (Or.inl ⟨by rfl, ?_⟩) ?_ ?_
      rotate_left
      · intro w'
        go_simp
        with_reducible rfl
      rotate_left
      · simp only [Act.put, List.setIfInBounds_toArray, List.set_cons_zero, List.set_cons_succ, i64_w, i32_w]
        rfl
      refine take_ (i := 10) (N := some 54) (v := ?_) (a' := ?_) #[true, true, true, true, true, true, true, true, true, true, true, true, true, true, false, false, false, false] rfl rfl (by kernel_rfl) (fun _ _ _ h => h) (Or.inl ⟨by rfl, ?_⟩) hHeld ?_ ?_
      rotate_left
      · rintro w' ⟨s0, s1⟩
        go_simp
        with_reducible rfl
      rotate_left
      · simp only [Act.put, List.setIfInBounds_toArray, List.set_cons_zero, List.set_cons_succ, i64_w, i32_w]
        rfl
      refine one_ (i := 14) (N := some 58) #[true, true, true, true, true, true, true, true, true, true, true, true, true, true, true, false, false, false] rfl rfl (by kernel_rfl) (by decide) (fun K hK => ?_)
      refine step_app (B := B) rfl (.tmp 54) (.tmp 57) rfl (.slice A hk.length c) hk Y Ap cp rfl rfl hD.out.o (HT.out _ (hpr.out)) (by have h := hD.out.fd gd (.inl rfl); simp; omega) (by omega) ?_
      intro v3 w3 ho3 hg3 hn3
      obtain ⟨hk2, hk2e⟩ : ∃ hk2, hk2 = hk ++ Y := ⟨_, rfl⟩
      rw [← hk2e] at ho3 hroom hlen2
      replace hk2e := Lib.hid hk2e
      replace hlen2 := Lib.hid hlen2
      replace hg3 : Hid (wr.grownBy w3 (Value.slice A hk.length c).ownBlock) := ⟨hg3.out.os, hg3.out.tape, hg3.out.output, hg3.out.size, hg3.out.block⟩
      have hd3 := blk_grown hD.out.d hg3.out hD.out.ned
      have hb3 := blk_grown hD.out.b hg3.out hD.out.neb
      have hfz := blk_frozen hb3 0
      obtain ⟨A3, c3, rfl, _⟩ := own_rd ho3.out
      clear hHeld
      refine hK.out _ _ ⟨blk_cell hd3 0, blk_cell hb3 0⟩ (fun hHeld => ?_)
      clear hK K
      refine norm_ (a' := ?_) ?_ ?_
      rotate_left
      · show Act.put _ (some 58) _ = _
        simp only [Act.put, List.setIfInBounds_toArray, List.set_cons_zero, List.set_cons_succ, i64_w, i32_w]
        rfl
      refine pure_ (i := 15) (N := some 59) (v := ?_) (a' := ?_) #[true, true, true, true, true, true, true, true, true, true, true, true, true, true, true, true, false, false] rfl rfl (by kernel_rfl) (fun _ _ _ h => h) (Or.inl ⟨by rfl, ?_⟩) ?_ ?_
      rotate_left
      · intro w'
        go_simp
        with_reducible rfl
      rotate_left
      · simp only [Act.put, List.setIfInBounds_toArray, List.set_cons_zero, List.set_cons_succ, i64_w, i32_w]
        rfl
      refine pure_ (i := 16) (N := some 60) (v := ?_) (a' := ?_) #[true, true, true, true, true, true, true, true, true, true, true, true, true, true, true, true, true, false] rfl rfl (by kernel_rfl) (fun _ _ _ h => h) (Or.inl ⟨by rfl, ?_⟩) ?_ ?_
      rotate_left
      · intro w'
        go_simp
        with_reducible rfl
      rotate_left
      · simp only [Act.put, List.setIfInBounds_toArray, List.set_cons_zero, List.set_cons_succ, i64_w, i32_w]
        rfl
      refine last_ (i := 17) (N := none) #[true, true, true, true, true, true, true, true, true, true, true, true, true, true, true, true, true, true] rfl rfl (by kernel_rfl) (by decide) (fun K hK => ?_)
      have c0 := blk_cell hb3 0
      simp only [List.getElem?_toArray, List.getElem?_cons_zero] at c0
      refine skip_ (w1 := ?_) (by rfl) rfl ?_ ?_
      rotate_left
      · go_simp
        rfl
      refine hK.out _ _ ?_
      clear hK K
      refine done_ (by kernel_rfl) ?_
      have hD4 : Duct (w3.setCell ⟨gb, 0, none⟩ (.slice A3 hk2.length c3)) B gd gb (.slice A3 hk2.length c3) { D with held := hk2 } :=
        ⟨blk_far hd3 (p := ⟨gb, 0, none⟩) hD.out.ne _, set_row hb3 0 _ _ rfl, own_setCell ho3.out (p := ⟨gb, 0, none⟩) (own_ne ho3.out hb3 (by decide)) _, hD.out.bd, hD.out.bb, ⟨hD.out.ok.1, hD.out.ok.2, hroom, hD.out.ok.4, hD.out.ok.5, hD.out.ok.6, hD.out.ok.7, hD.out.ok.8, hD.out.ok.9, hD.out.ok.10, hD.out.ok.11⟩⟩
      have hC3 : Chg w w3 (FD gd gb v) := hC.out.trans (S1 := fun q => some q = (Value.slice A hk.length c).ownBlock) ⟨hg3.out.os, hg3.out.tape, hg3.out.output, hg3.out.size, fun q hq hn => hg3.out.block q hq hn⟩ (fun q hq he => (hN.out q he.symm).elim (fun h1 => .inr (.inr h1)) (fun h1 => absurd h1 (by omega)))
      have hC4 : Chg w (w3.setCell ⟨gb, 0, none⟩ (.slice A3 hk2.length c3)) (FD gd gb v) := hC3.set_ (.inr (.inl rfl)) _
      have hN4 : Nx w v (.slice A3 hk2.length c3) := fun q hq => by
        rcases hn3.out q hq with h1 | h1
        · exact hN.out q h1
        · right
          have h2 := hC.out.size
          have h3 : wr.heap.size ≤ q := h1
          omega
      replace hD4 := Lib.hid hD4
      replace hC4 := Lib.hid hC4
      replace hN4 := Lib.hid hN4
      clear ho3 hg3 hn3 hd3 hb3 hfz hHeld c0 hD hC hN hC3 q0 q1 q2 hcell hsl hmin hsub
      go_wp2_with fail
      go_roundw
      case rel => exact ⟨k + 1, _, by go_num, by omega, by rw [HS.out, ← hk2e.out, hlen2.out]; exact congrArg _ (by omega), by rw [HS.out, ← hk2e.out]; exact hD4, hN4, hC4⟩
      case measure => simp [intOf]; omega
    · obtain rfl : k = ps.length := by omega
      rw [List.take_length] at hD ⊢
      clear HP q0 q1
      obtain ⟨-, -, q2, -, -, -⟩ := hD.out.dcells
      have hfz := blk_frozen hD.out.d 2
      dsimp only at q2
      have hD4 := Lib.hid (hD.out.setCi (D.ci + ((fill D.room D.held ps).length - D.held.length)) (by omega) (by omega))
      have hC4 := Lib.hid (hC.out.set_ (p := ⟨gd, 2, none⟩) (.inl rfl) (.int .i64 (D.ci + ((fill D.room D.held ps).length - D.held.length))))
      go_wp2_with fail
      go_ret2
      exact ⟨rfl, _, hD4.out, hN.out, hC4.out⟩
end Go.Proofs.Ytingiihboibcdaa.D
