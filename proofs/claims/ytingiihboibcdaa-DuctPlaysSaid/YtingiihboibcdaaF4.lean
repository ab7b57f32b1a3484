/- The contract of Write of the document's duct. -/
import Derived.Test.YtingiihboibcdaaF3
namespace Go.Proofs.Ytingiihboibcdaa.D
open Go.RowKit Go.Proofs.YtingiihboibcdaaW.PrintWords Go.Proofs.YtingiihboibcdaaW.PrintLast Go.Proofs.YtingiihboibcdaaW.PrintMore
set_option linter.unusedSimpArgs false
variable (B gq : Nat) (v : Value) (D : DS) (w : World)
theorem RWrite_shut (A : Option Addr) (n c : Nat) (h : RD w B gq v D) (hs : D.shut = true) :
    Calls Try.prog 29 #[.pointer (some ⟨gq, 0, none⟩), .slice A n c] w fun e w' => e = .returned (.tuple #[.int .i64 0, .int .i64 91]) ∧ w = w' := by
  obtain ⟨-, -, q2, -, -, -, -⟩ := h.cells
  rw [hs] at q2
  go_enter Try.func29, Try.ntmps29
  go_wp2_with fail
  go_ret2
  exact ⟨rfl, rfl⟩
set_option maxRecDepth 100000 in
set_option maxHeartbeats 4000000 in
theorem RWrite_calls (A0 : Option Addr) (c0 : Nat) (ps : List (List Int)) (h : RD w B gq v D) (hs : D.shut = false) (hci : D.ci + 4194304 ≤ 9223372036854775807) (hp : ∀ W, Chg w W (FQ gq v) → PartsRd W A0 ps) :
    Calls Try.prog 29 #[.pointer (some ⟨gq, 0, none⟩), .slice A0 ps.length c0] w fun e w' => e = .returned (.tuple #[.int .i64 ((fill D.room D.held ps).length - D.held.length), .int .i64 0]) ∧ ∃ v1, RD w' B gq v1 (writeD D ps) ∧ Nx w v v1 ∧ Chg w w' (FQ gq v) := by
  obtain ⟨-, -, q2, -, -, -, -⟩ := h.cells
  rw [hs] at q2
  have hmaxl := (hp w (Chg.refl _ _)).1
  have ok := h.ok
  have hr1 := ok.r1
  have hh1 := ok.h1
  have hci0 := ok.ci0
  have HH := Lib.hid h
  have HP := Lib.hid hp
  have hall := fill_le D.room ps D.held hh1
  clear h hp ok
  go_enter Try.func29, Try.ntmps29
  go_wp2_with fail
  clear q2
  go_loopw [6, 7] (fun n i W => ∃ (k : Nat) (vk : Value), i = .int .i64 k ∧ k ≤ ps.length ∧ n = .int .i64 ((fill D.room D.held (ps.take k)).length - D.held.length) ∧ Hid (RD W B gq vk { D with held := fill D.room D.held (ps.take k) }) ∧ Hid (Nx w v vk) ∧ Hid (Chg w W (FQ gq v))) (fun _ i _ => ps.length - (intOf i).toNat)
  case atStart => exact ⟨0, v, rfl, by omega, by simp [fill], HH, Nx.refl _ _, Chg.refl _ _⟩
  case round =>
    obtain ⟨k, vk, rfl, hk, rfl, hD, hN, hC⟩ := hrel
    have hin := fill_le D.room (ps.take k) D.held hh1
    by_cases hlt : k < ps.length
    · obtain ⟨ad, Ap, cp, rfl, hcell0, hcp, hpr⟩ := (HP.out _ hC.out).2 k hlt
      have HS : fill D.room D.held (ps.take (k + 1)) = fill D.room D.held (ps.take k) ++ ps[k].take (D.room - (fill D.room D.held (ps.take k)).length).toNat := by rw [List.take_succ_eq_append_getElem hlt]; exact fill_snoc D.room (ps.take k) ps[k] D.held
      have hplen : ps[k].length ≤ 9223372036854775807 := hpr.2.1
      obtain ⟨p, hpe⟩ : ∃ p, p = ps[k] := ⟨_, rfl⟩
      rw [← hpe] at hcell0 hcp hpr HS hplen
      clear hcell0 hpr
      obtain ⟨F, hF⟩ : ∃ F, F = fill D.room D.held (ps.take k) := ⟨_, rfl⟩
      rw [← hF] at hD hin HS ⊢
      replace hF := Lib.hid hF
      replace HS := Lib.hid HS
      replace hpe := Lib.hid hpe
      have hdk : decide ((k : Int) < (ps.length : Int)) = true := by simp; omega
      have hFr : F.length ≤ 4194304 := by omega
      go_wp2_with fail
      go_loopw [6, 8] (fun n j W => ∃ (m : Nat) (vm : Value) (hk : List Int), j = .int .i64 m ∧ m ≤ p.length ∧ n = .int .i64 ((hk.length : Int) - D.held.length) ∧ Hid (hk = F ++ p.take m) ∧ Hid (hk.length = F.length + m) ∧ ((F.length + m : Nat) : Int) ≤ D.room ∧ hk.length ≤ 4194304 ∧ (hk.length : Int) ≤ D.room ∧ Hid (RD W B gq vm { D with held := hk }) ∧ Hid (Nx w v vm) ∧ Hid (Chg w W (FQ gq v))) (fun _ j _ => p.length - (intOf j).toNat)
      case atStart => exact ⟨0, vk, F, rfl, by omega, rfl, by show _ = _; simp, by show _ = _; simp, by omega, hFr, by omega, hD, hN, hC⟩
      case round =>
        clear hD hN hC
        obtain ⟨m, vm, hk, rfl, hm, rfl, hke, hkl, hmr, hk4, hkr, hD, hN, hC⟩ := hrel
        obtain ⟨ad', Ap', cp', had, hcell, hcp', hpr⟩ := (HP.out _ hC.out).2 k hlt
        rw [← hpe.out] at hcell hcp' hpr
        injection had with had
        subst had
        have hRm := RRoom_calls B gq vm { D with held := hk } _ hD.out
        dsimp only at hRm
        rw [hs] at hRm
        simp only [Bool.false_eq_true, if_false] at hRm
        obtain ⟨A, c, rfl, -⟩ := hD.out.slice
        by_cases hml : m < p.length
        · by_cases hfull : (hk.length : Int) < D.room
          · have hd0 : decide ((0 : Int) < D.room - (hk.length : Int)) = true := by simp; omega
            obtain ⟨ab, hab, hx0⟩ := hpr.2.2 (by omega)
            subst hab
            have hx := hx0 m hml
            generalize hxe : p.getD m 0 = x at hx
            replace hxe := Lib.hid hxe
            clear hx0 hpr
            go_wp2_with fail
            refine hRm.mono ?_
            clear hRm
            rintro e w' ⟨rfl, kk, rfl⟩
            replace hD := Lib.hid (hD.out.drewN kk)
            replace hC := Lib.hid (hC.out.drewN kk)
            obtain ⟨W, hW⟩ : ∃ W, W = wr.drewN kk := ⟨_, rfl⟩
            replace hcell : W.cell? (ad.add k) = some (.slice (some ab) p.length cp') := by rw [hW]; exact hcell
            replace hx : W.cell? (ab.add m) = some (.int .u8 x) := by rw [hW]; exact hx
            rw [← hW] at hD hC ⊢
            clear hW
            obtain ⟨-, q1, -, -, -, -, -⟩ := hD.out.cells
            obtain ⟨D1, hD1⟩ : ∃ D1, D1 = ({ D with held := hk } : DS) := ⟨_, rfl⟩
            have hD1h : D1.held = hk := by rw [hD1]
            have hD1r : D1.room = D.room ∧ D1.shut = D.shut ∧ D1.ci = D.ci ∧ D1.co = D.co ∧ D1.ct = D.ct ∧ D1.cl = D.cl := by rw [hD1]; exact ⟨rfl, rfl, rfl, rfl, rfl, rfl⟩
            replace hD1h := Lib.hid hD1h
            rw [← hD1] at hD
            have hP1 : RPk W W B gq (.slice A hk.length c) D1 := ⟨hD.out, Below.refl _ _⟩
            go_wp2_with fail
            refine start_ (n := 17) (S := fun w' => w'.cell? ⟨gq, 1, none⟩ = some (.slice A hk.length c) ∧ w'.cell? (ad.add k) = some (.slice (some ab) p.length cp') ∧ w'.cell? (ab.add m) = some (.int .u8 x) ∧ RPk W w' B gq (.slice A hk.length c) D1) (ds := [13, 16]) #[false, false, false, false, false, false, false, false, false, false, false, false, false, false, false, false, false] (by kernel_rfl) rfl rfl ⟨q1, hcell, hx, hP1.drewN 1⟩ (fun hHeld => ?_)
            refine pure_ (i := 0) (N := some 33) (v := ?_) (a' := ?_) #[true, false, false, false, false, false, false, false, false, false, false, false, false, false, false, false, false] rfl rfl (by kernel_rfl) (fun _ _ _ h => h) (Or.inl ⟨by rfl, ?_⟩) ?_ ?_
            rotate_left
            · intro w'
              go_simp
              with_reducible rfl
            rotate_left
            · simp only [Act.put, List.setIfInBounds_toArray, List.set_cons_zero, List.set_cons_succ, i64_w, i32_w]
              rfl
            refine pure_ (i := 1) (N := some 34) (v := ?_) (a' := ?_) #[true, true, false, false, false, false, false, false, false, false, false, false, false, false, false, false, false] rfl rfl (by kernel_rfl) (fun _ _ _ h => h) (Or.inl ⟨by rfl, ?_⟩) ?_ ?_
            rotate_left
            · intro w'
              go_simp
              with_reducible rfl
            rotate_left
            · simp only [Act.put, List.setIfInBounds_toArray, List.set_cons_zero, List.set_cons_succ, i64_w, i32_w]
              rfl
            refine pure_ (i := 2) (N := some 35) (v := ?_) (a' := ?_) #[true, true, true, false, false, false, false, false, false, false, false, false, false, false, false, false, false] rfl rfl (by kernel_rfl) (fun _ _ _ h => h) (Or.inl ⟨by rfl, ?_⟩) ?_ ?_
            rotate_left
            · intro w'
              go_simp
              with_reducible rfl
            rotate_left
            · simp only [Act.put, List.setIfInBounds_toArray, List.set_cons_zero, List.set_cons_succ, i64_w, i32_w]
              rfl
            refine pure_ (i := 3) (N := some 36) (v := ?_) (a' := ?_) #[true, true, true, true, false, false, false, false, false, false, false, false, false, false, false, false, false] rfl rfl (by kernel_rfl) (fun _ _ _ h => h) (Or.inl ⟨by rfl, ?_⟩) ?_ ?_
            rotate_left
            · intro w'
              go_simp
              with_reducible rfl
            rotate_left
            · simp only [Act.put, List.setIfInBounds_toArray, List.set_cons_zero, List.set_cons_succ, i64_w, i32_w]
              rfl
            refine pure_ (i := 5) (N := some 38) (v := ?_) (a' := ?_) #[true, true, true, true, false, true, false, false, false, false, false, false, false, false, false, false, false] rfl rfl (by kernel_rfl) (fun _ _ _ h => h) (Or.inl ⟨by rfl, ?_⟩) ?_ ?_
            rotate_left
            · intro w'
              go_simp
              with_reducible rfl
            rotate_left
            · simp only [Act.put, List.setIfInBounds_toArray, List.set_cons_zero, List.set_cons_succ, i64_w, i32_w]
              rfl
            refine pure_ (i := 6) (N := some 39) (v := ?_) (a' := ?_) #[true, true, true, true, false, true, true, false, false, false, false, false, false, false, false, false, false] rfl rfl (by kernel_rfl) (fun _ _ _ h => h) (Or.inl ⟨by rfl, ?_⟩) ?_ ?_
            rotate_left
            · intro w'
              go_simp
              with_reducible rfl
            rotate_left
            · simp only [Act.put, List.setIfInBounds_toArray, List.set_cons_zero, List.set_cons_succ, i64_w, i32_w]
              rfl
            refine pure_ (i := 7) (N := some 40) (v := ?_) (a' := ?_) #[true, true, true, true, false, true, true, true, false, false, false, false, false, false, false, false, false] rfl rfl (by kernel_rfl) (fun _ _ _ h => h) (Or.inl ⟨by rfl, ?_⟩) ?_ ?_
            rotate_left
            · intro w'
              go_simp
              with_reducible rfl
            rotate_left
            · simp only [Act.put, List.setIfInBounds_toArray, List.set_cons_zero, List.set_cons_succ, i64_w, i32_w]
              rfl
            refine pure_ (i := 9) (N := some 42) (v := ?_) (a' := ?_) #[true, true, true, true, false, true, true, true, false, true, false, false, false, false, false, false, false] rfl rfl (by kernel_rfl) (fun _ _ _ h => h) (Or.inl ⟨by rfl, ?_⟩) ?_ ?_
            rotate_left
            · intro w'
              go_simp
              with_reducible rfl
            rotate_left
            · simp only [Act.put, List.setIfInBounds_toArray, List.set_cons_zero, List.set_cons_succ, i64_w, i32_w]
              rfl
            refine take_ (i := 4) (N := some 37) (v := ?_) (a' := ?_) #[true, true, true, true, true, true, true, true, false, true, false, false, false, false, false, false, false] rfl rfl (by kernel_rfl) (fun _ _ _ h => h) (Or.inl ⟨by rfl, ?_⟩) hHeld ?_ ?_
            rotate_left
            · rintro w' ⟨s0, s1, s2, s3⟩
              go_simp
              with_reducible rfl
            rotate_left
            · simp only [Act.put, List.setIfInBounds_toArray, List.set_cons_zero, List.set_cons_succ, i64_w, i32_w]
              rfl
            refine take_ (i := 8) (N := some 41) (v := ?_) (a' := ?_) #[true, true, true, true, true, true, true, true, true, true, false, false, false, false, false, false, false] rfl rfl (by kernel_rfl) (fun _ _ _ h => h) (Or.inl ⟨by rfl, ?_⟩) hHeld ?_ ?_
            rotate_left
            · rintro w' ⟨s0, s1, s2, s3⟩
              go_simp
              with_reducible rfl
            rotate_left
            · simp only [Act.put, List.setIfInBounds_toArray, List.set_cons_zero, List.set_cons_succ, i64_w, i32_w]
              rfl
            refine pure_ (i := 10) (N := some 43) (v := ?_) (a' := ?_) #[true, true, true, true, true, true, true, true, true, true, true, false, false, false, false, false, false] rfl rfl (by kernel_rfl) (fun _ _ _ h => h) (Or.inl ⟨by rfl, ?_⟩) ?_ ?_
            rotate_left
            · intro w'
              go_simp
              with_reducible rfl
            rotate_left
            · simp only [Act.put, List.setIfInBounds_toArray, List.set_cons_zero, List.set_cons_succ, i64_w, i32_w]
              rfl
            refine take_ (i := 11) (N := some 44) (v := ?_) (a' := ?_) #[true, true, true, true, true, true, true, true, true, true, true, true, false, false, false, false, false] rfl rfl (by kernel_rfl) (fun _ _ _ h => h) (Or.inl ⟨by rfl, ?_⟩) hHeld ?_ ?_
            rotate_left
            · rintro w' ⟨s0, s1, s2, s3⟩
              go_simp
              with_reducible rfl
            rotate_left
            · simp only [Act.put, List.setIfInBounds_toArray, List.set_cons_zero, List.set_cons_succ, i64_w, i32_w]
              rfl
            refine one_ (i := 12) (N := some 45) #[true, true, true, true, true, true, true, true, true, true, true, true, true, false, false, false, false] rfl rfl (by kernel_rfl) (by decide) (fun K hK => ?_)
            refine value_ (w1 := ?_) (v := ?_) (by rfl) rfl ?_ ?_
            rotate_left 2
            · go_simp
              constructor
              · rfl
              · rfl
            refine hK.out _ _ ⟨pw_cell_below (below_alloc (Below.refl _ _) _) hHeld.1, pw_cell_below (below_alloc (Below.refl _ _) _) hHeld.2.1, pw_cell_below (below_alloc (Below.refl _ _) _) hHeld.2.2.1, hHeld.2.2.2.below (below_alloc (Below.refl _ _) _)⟩ (fun hHeld => ?_)
            clear hK K
            refine norm_ (a' := ?_) ?_ ?_
            rotate_left
            · show Act.put _ (some 45) _ = _
              simp only [Act.put, List.setIfInBounds_toArray, List.set_cons_zero, List.set_cons_succ, i64_w, i32_w]
              rfl
            refine last_ (i := 13) (N := some 46) #[true, true, true, true, true, true, true, true, true, true, true, true, true, true, false, false, false] rfl rfl (by kernel_rfl) (by decide) (fun K hK => ?_)
            refine step_app (B := B) rfl (.tmp 37) (.tmp 45) rfl (.slice A hk.length c) hk [x] _ 1 rfl rfl (by have h := hHeld.2.2.2.d.o; rw [hD1h] at h; exact h) (lit_rd _ [x] (by simp)) (by have h := hHeld.2.2.2.d.fq gq (.inl rfl); omega) (by simp; omega) ?_
            intro v3 w3 ho3 hg3 hn3
            have hb3 := hHeld.2.2.2.bel
            have hq3 := blk_grown hHeld.2.2.2.d.q hg3.out hHeld.2.2.2.d.ne
            have hcl := blk_cell hq3 1
            have hfz := blk_frozen hq3 1
            obtain ⟨hk2, hk2e⟩ : ∃ hk2, hk2 = hk ++ [x] := ⟨_, rfl⟩
            rw [← hk2e] at ho3
            replace hk2e := Lib.hid hk2e
            obtain ⟨A3, c3, rfl, _⟩ := own_rd ho3.out
            clear hHeld
            refine hK.out _ _ ?_
            clear hK K
            refine norm_ (a' := ?_) ?_ ?_
            rotate_left
            · show Act.put _ (some 46) _ = _
              simp only [Act.put, List.setIfInBounds_toArray, List.set_cons_zero, List.set_cons_succ, i64_w, i32_w]
              rfl
            refine pure_ (i := 14) (N := some 47) (v := ?_) (a' := ?_) #[true, true, true, true, true, true, true, true, true, true, true, true, true, true, true, false, false] rfl rfl (by kernel_rfl) (fun _ _ _ h => h) (Or.inl ⟨by rfl, ?_⟩) ?_ ?_
            rotate_left
            · intro w'
              go_simp
              with_reducible rfl
            rotate_left
            · simp only [Act.put, List.setIfInBounds_toArray, List.set_cons_zero, List.set_cons_succ, i64_w, i32_w]
              rfl
            refine pure_ (i := 15) (N := some 48) (v := ?_) (a' := ?_) #[true, true, true, true, true, true, true, true, true, true, true, true, true, true, true, true, false] rfl rfl (by kernel_rfl) (fun _ _ _ h => h) (Or.inl ⟨by rfl, ?_⟩) ?_ ?_
            rotate_left
            · intro w'
              go_simp
              with_reducible rfl
            rotate_left
            · simp only [Act.put, List.setIfInBounds_toArray, List.set_cons_zero, List.set_cons_succ, i64_w, i32_w]
              rfl
            refine last_ (i := 16) (N := none) #[true, true, true, true, true, true, true, true, true, true, true, true, true, true, true, true, true] rfl rfl (by kernel_rfl) (by decide) (fun K hK => ?_)
            simp only [List.getElem?_toArray, List.getElem?_cons_zero, List.getElem?_cons_succ] at hcl
            refine skip_ (w1 := ?_) (by rfl) rfl ?_ ?_
            rotate_left
            · go_simp
              rfl
            refine hK.out _ _ ?_
            clear hK K
            refine done_ (by kernel_rfl) ?_
            subst hD1
            have hlen2 : hk2.length = hk.length + 1 := by rw [hk2e.out, List.length_append]; rfl
            have hD4 : RD (w3.setCell ⟨gq, 1, none⟩ (.slice A3 hk2.length c3)) B gq (.slice A3 hk2.length c3) { D with held := hk2 } :=
              ⟨set_row hq3 1 _ _ rfl, own_setCell ho3.out (p := ⟨gq, 1, none⟩) (own_ne ho3.out hq3 (by decide)) _, hD.out.bq, ⟨hD.out.ok.1, hD.out.ok.2, by show (hk2.length : Int) ≤ D.room; omega, hD.out.ok.4, hD.out.ok.5, hD.out.ok.6, hD.out.ok.7, hD.out.ok.8, hD.out.ok.9, hD.out.ok.10, hD.out.ok.11⟩⟩
            have hC3 : Chg w w3 (FQ gq v) := hC.out.trans (S1 := fun q => some q = (Value.slice A hk.length c).ownBlock) ⟨hg3.out.os.trans hb3.os, hg3.out.tape.trans hb3.tape, hg3.out.output.trans hb3.output, Nat.le_trans hb3.size hg3.out.size, fun q hq hn => (hg3.out.block q (Nat.lt_of_lt_of_le hq hb3.size) hn).trans (hb3.block q hq)⟩ (fun q hq he => (hN.out q he.symm).elim (fun h1 => .inr h1) (fun h1 => absurd h1 (by omega)))
            have hC4 : Chg w (w3.setCell ⟨gq, 1, none⟩ (.slice A3 hk2.length c3)) (FQ gq v) := hC3.set_ (.inl rfl) _
            have hN4 : Nx w v (.slice A3 hk2.length c3) := fun q hq => by
              rcases hn3.out q hq with h1 | h1
              · exact hN.out q h1
              · right
                have h2 := hC.out.size
                have h3 := hb3.size
                omega
            have hke2 : Hid (hk2 = F ++ p.take (m + 1)) := by
              show hk2 = _
              rw [hk2e.out, hke.out, List.append_assoc, List.take_succ_eq_append_getElem hml, ← hxe.out, List.getD_eq_getElem?_getD, List.getElem?_eq_getElem hml]
              rfl
            have hkl2 : Hid (hk2.length = F.length + (m + 1)) := by show _ = _; have := hkl.out; omega
            have hmr2 : ((F.length + (m + 1) : Nat) : Int) ≤ D.room := by have := hkl.out; omega
            have hk42 : hk2.length ≤ 4194304 := by omega
            have hkr2 : (hk2.length : Int) ≤ D.room := by omega
            replace hD4 := Lib.hid hD4
            replace hC4 := Lib.hid hC4
            replace hN4 := Lib.hid hN4
            replace hlen2 := Lib.hid hlen2
            clear ho3 hg3 hn3 hb3 hq3 hfz hcl hHeld hD hC hN hC3 q1 hcell hx hP1 hD1h hD1r
            go_wp2_with fail
            go_roundw
            case rel => exact ⟨m + 1, _, hk2, by go_num, by omega, by rw [hlen2.out]; exact congrArg _ (by omega), hke2, hkl2, hmr2, hk42, hkr2, hD4, hN4, hC4⟩
            case measure => simp [intOf]; omega
          · have hd0 : decide ((0 : Int) < D.room - (hk.length : Int)) = false := by simp; omega
            have hfin : Hid (fill D.room D.held (ps.take (k + 1)) = hk) := by
              show _ = _
              rw [HS.out, hke.out]
              have : (D.room - (F.length : Int)).toNat = m := by have := hkl.out; omega
              rw [this]
            clear hpr
            go_wp2_with fail
            refine hRm.mono ?_
            clear hRm
            rintro e w' ⟨rfl, kk, rfl⟩
            replace hD := Lib.hid (hD.out.drewN kk)
            replace hC := Lib.hid (hC.out.drewN kk)
            go_wp2_with fail
            go_roundw
            case rel => exact ⟨k + 1, _, by go_num, by omega, by rw [hfin.out], by rw [hfin.out]; exact hD, hN, hC⟩
            case measure => simp [intOf]; omega
        · have hfin : Hid (fill D.room D.held (ps.take (k + 1)) = hk) := by
            show _ = _
            have hmp : m = p.length := by omega
            rw [HS.out, hke.out, hmp, List.take_length, List.take_of_length_le (by omega)]
          clear hpr hRm
          go_wp2_with fail
          go_roundw
          case rel => exact ⟨k + 1, _, by go_num, by omega, by rw [hfin.out], by rw [hfin.out]; exact hD, hN, hC⟩
          case measure => simp [intOf]; omega
    · obtain rfl : k = ps.length := by omega
      rw [List.take_length] at hD ⊢
      clear HP
      obtain ⟨-, -, -, q3, -, -, -⟩ := hD.out.cells
      have hfz := blk_frozen hD.out.q 3
      dsimp only at q3
      have hD4 := Lib.hid (hD.out.setCi (D.ci + ((fill D.room D.held ps).length - D.held.length)) (by omega) (by omega))
      have hC4 := Lib.hid (hC.out.set_ (p := ⟨gq, 3, none⟩) (.inl rfl) (.int .i64 (D.ci + ((fill D.room D.held ps).length - D.held.length))))
      go_wp2_with fail
      go_ret2
      exact ⟨rfl, _, hD4.out, hN.out, hC4.out⟩
end Go.Proofs.Ytingiihboibcdaa.D
