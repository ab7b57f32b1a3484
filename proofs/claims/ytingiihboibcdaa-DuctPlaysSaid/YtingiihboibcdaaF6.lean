/- The walk of the law DuctPlays. -/
import Derived.Test.YtingiihboibcdaaF5
namespace Go.Proofs.Ytingiihboibcdaa.D
open Go.RowKit Go.Proofs.YtingiihboibcdaaW.PrintWords Go.Proofs.YtingiihboibcdaaW.PrintLast Go.Proofs.YtingiihboibcdaaW.PrintMore
set_option linter.unusedSimpArgs false
theorem Both.thin {w0 W W1 : World} {B gd gb gq : Nat} {v vq : Value} {D Dq : DS} (h : Both w0 W B gd gb v D gq vq Dq) (hb : Below W.heap.size W W1) : Both w0 W1 B gd gb v D gq vq Dq := ⟨below_step h.bel hb, h.le, h.d.below hb, h.q.below hb, h.sep⟩
theorem bulk_len (ps : List ActD) : ps.length ≤ bulkD ps := by
  induction ps with
  | nil => simp
  | cons p r ih => simp only [List.length_cons, bulkD]; omega
def roomv (D : DS) : Int := if D.shut then 0 else D.room - D.held.length
theorem Room_v (w : World) (B gd gb : Nat) (v : Value) (D : DS) (h : Duct w B gd gb v D) :
    Calls Try.prog 18 #[.pointer (some ⟨gd, 0, none⟩)] w fun e w' => e = .returned (.int .i64 (roomv D)) ∧ ∃ k, w' = w.drewN k := Room_calls B gd gb v D w h
theorem RRoom_v (w : World) (B gq : Nat) (v : Value) (D : DS) (h : RD w B gq v D) :
    Calls Try.prog 19 #[.pointer (some ⟨gq, 0, none⟩)] w fun e w' => e = .returned (.int .i64 (roomv D)) ∧ ∃ k, w' = w.drewN k := RRoom_calls B gq v D w h
def donev (D : DS) : Bool := D.shut && decide (D.held.length = 0)
theorem Done_v (w : World) (B gd gb : Nat) (v : Value) (D : DS) (h : Duct w B gd gb v D) :
    Calls Try.prog 20 #[.pointer (some ⟨gd, 0, none⟩)] w fun e w' => e = .returned (.bool (donev D)) ∧ w = w' := Done_calls B gd gb v D w h
theorem RDone_v (w : World) (B gq : Nat) (v : Value) (D : DS) (h : RD w B gq v D) :
    Calls Try.prog 21 #[.pointer (some ⟨gq, 0, none⟩)] w fun e w' => e = .returned (.bool (donev D)) ∧ w = w' := RDone_calls B gq v D w h
variable (w : World)
set_option maxRecDepth 100000 in
set_option maxHeartbeats 4000000 in
theorem DuctPlays_calls (room : Int) (A : Option Addr) (c : Nat) (ps : List ActD) (hrm0 : -9223372036854775808 ≤ room) (hrm1 : room ≤ 9223372036854775807) (hr : ActsRd w A ps) (hlen2 : ps.length ≤ 2932031007402) :
    Calls Try.prog 4 #[.int .i64 room, .slice A ps.length c] w fun e w' => e = .returned (.bool true) ∧ Below w.heap.size w w' := by
  have HR := Lib.hid hr
  have hlen := hr.1
  clear hr
  by_cases hbad : room < 1 ∨ 4194304 < room
  · go_enter Try.func4, Try.ntmps4
    go_wp2_with fail
    refine (New_bad room _ hbad).mono ?_
    rintro e w' ⟨rfl, rfl⟩
    go_wp2_with fail
    refine (RNew_bad _ room hbad).mono ?_
    rintro e w1 ⟨rfl, hb1⟩
    replace hb1 := Lib.hid hb1
    go_wp2_with fail
    refine (alive_calls _).mono ?_
    rintro e w2 ⟨rfl, hb2⟩
    replace hb2 := Lib.hid (below_step (below_step hb1.out (below_alloc (Below.refl _ _) _)) hb2)
    clear hb1
    go_wp2_with fail
    go_ret
    exact ⟨rfl, hb2.out⟩
  · have hr1 : 1 ≤ room := by omega
    have hr2 : room ≤ 4194304 := by omega
    clear hbad
    go_enter Try.func4, Try.ntmps4
    go_wp2_with fail
    refine (New_good room _ hr1 hr2).mono ?_
    rintro e w1 ⟨gd, gb, v, rfl, hD, hb1⟩
    replace hD := Lib.hid hD
    replace hb1 := Lib.hid hb1
    go_wp2_with fail
    refine (RNew_good _ room hr1 hr2).mono ?_
    rintro e w2 ⟨rfl, hb2⟩
    replace hD := Lib.hid (hD.out.below hb2)
    replace hb1 := Lib.hid (below_step hb1.out hb2)
    clear hb2
    go_wp2_with fail
    refine (alive_calls _).mono ?_
    rintro e w3 ⟨rfl, hb3⟩
    have bA := below_alloc (Below.refl _ w2) (.cells #[.int .i64 room, .slice none 0 0, .bool false, .int .i64 0, .int .i64 0, .int .i64 0, .int .i64 0] 44)
    have hB : Both w (w2.alloc (.cells #[.int .i64 room, .slice none 0 0, .bool false, .int .i64 0, .int .i64 0, .int .i64 0, .int .i64 0] 44)) w.heap.size gd gb v (new0 room) w2.heap.size (.slice none 0 0) (new0 room) :=
      ⟨below_step hb1.out bA, Nat.le_refl _, hD.out.below bA, ⟨heap_alloc_new _ _, own_nil _ _ _ _, hb1.out.size, hD.out.ok⟩, fun k hf hq => by
        rcases hq with rfl | hq
        · have := (hD.out.fd _ hf).2; omega
        · simp [Value.ownBlock] at hq⟩
    replace hB := Lib.hid (hB.thin hb3)
    have hN := Lib.hid (show CN (new0 room) (4194304 * (0 : Nat)) from ⟨by simp [new0], by simp [new0], by simp [new0]⟩)
    obtain ⟨gq, hgq⟩ : ∃ gq, gq = w2.heap.size := ⟨_, rfl⟩
    rw [← hgq] at hB
    clear hD hb1 hb3 bA
    go_wp2_with fail
    rw [← hgq]
    clear hgq
    go_loopw [39] (fun i wr => ∃ (k : Nat) (v vq : Value) (D : DS), i = .int .i64 k ∧ k ≤ ps.length ∧ Hid (Both w wr w.heap.size gd gb v D gq vq D) ∧ Hid (CN D (4194304 * (k : Nat)))) (fun i _ => ps.length - (intOf i).toNat)
    case atStart => exact ⟨0, v, _, _, rfl, by omega, hB, hN⟩
    case round =>
      clear hB hN v
      obtain ⟨k, v, vq, D, rfl, hk, hB, hN⟩ := hrel
      by_cases hlt : k < ps.length
      · obtain ⟨ad, rfl, hX⟩ := HR.out.2 k hlt
        obtain ⟨p, hpe⟩ : ∃ p, p = ps[k] := ⟨_, rfl⟩
        rw [← hpe] at hX
        clear hpe
        obtain ⟨A1, c1, q0, q1, q2, q3, hP, -⟩ := hX
        have hbel := hB.out.bel
        replace q0 := pw_cell_below hbel q0
        replace q1 := pw_cell_below hbel q1
        replace q2 := pw_cell_below hbel q2
        replace q3 := pw_cell_below hbel q3
        replace hP := Lib.hid hP
        clear hbel
        go_wp2_with fail
        have hac := heap_alloc_new wr (.cells #[.int .i64 p.kind, .slice A1 p.parts.length c1, .int .i64 p.a, .int .i64 p.b] 31)
        replace hB := Lib.hid (hB.out.thin (below_alloc (Below.refl _ wr) (.cells #[.int .i64 p.kind, .slice A1 p.parts.length c1, .int .i64 p.a, .int .i64 p.b] 31)))
        obtain ⟨W, hW⟩ : ∃ W, W = wr.alloc (.cells #[.int .i64 p.kind, .slice A1 p.parts.length c1, .int .i64 p.a, .int .i64 p.b] 31) := ⟨_, rfl⟩
        rw [← hW] at hB hac ⊢
        clear hW q0 q1 q2 q3
        have q0 := blk_cell hac 0
        have q1 := blk_cell hac 1
        have q2 := blk_cell hac 2
        have q3 := blk_cell hac 3
        simp only [List.getElem?_toArray, List.getElem?_cons_zero, List.getElem?_cons_succ] at q0 q1 q2 q3
        clear hac
        go_region_with (first
          | (go_at_call 17; go_must (refine (does_calls w _ gd gb gq v vq D p A1 c1 (4194304 * (k : Nat)) (by first | exact hB.out | exact hB.out.drew | exact hB.out.drewN _) hN.out (by omega) hP.out).mono ?_); rintro e w4 ⟨rfl, v4, vq4, D4, hB4, hN4⟩; obtain ⟨A4, c4, rfl, -⟩ := hB4.q.slice; obtain ⟨-, z1, -, -, -, -, -⟩ := hB4.q.cells; replace hB4 := Lib.hid hB4; replace hN4 := Lib.hid hN4)
          | (go_at_call 12; go_must (refine (Len_calls _ _ _ _ _ _ hB4.out.d).mono ?_); rintro e w5 ⟨rfl, rfl⟩)
          | (go_at_call 18; go_must (refine (Room_v _ _ _ _ _ _ hB4.out.d).mono ?_); rintro e w5 ⟨rfl, kk, rfl⟩)
          | (go_at_call 19; go_must (refine (RRoom_v _ _ _ _ _ (hB4.out.q.drewN kk)).mono ?_); rintro e w6 ⟨rfl, kk2, rfl⟩))
        · have hN5 := Lib.hid (hN4.out.mono (m := 4194304 * ((k + 1 : Nat) : Int)) (by push_cast; omega))
          replace hB4 := Lib.hid (hB4.out.drewN (kk + kk2))
          go_wp2_with fail
          go_roundw
          case rel => exact ⟨k + 1, v4, _, D4, by go_num, by omega, hB4, hN5⟩
          case measure => simp [intOf]; omega
        · have hN5 := Lib.hid (hN4.out.mono (m := 4194304 * ((k + 1 : Nat) : Int)) (by push_cast; omega))
          replace hB4 := Lib.hid (hB4.out.drewN (kk + kk2))
          go_wp2_with fail
          go_roundw
          case rel => exact ⟨k + 1, v4, _, D4, by go_num, by omega, hB4, hN5⟩
          case measure => simp [intOf]; omega
      · obtain ⟨A4, c4, rfl, -⟩ := hB.out.q.slice
        obtain ⟨-, z1, -, z3, z4, z5, z6⟩ := hB.out.q.cells
        go_wp2_with fail
        refine start_ (n := 26) (S := fun w' => w'.cell? ⟨gq, 1, none⟩ = some (.slice A4 D.held.length c4) ∧ w'.cell? ⟨gq, 3, none⟩ = some (.int .i64 D.ci) ∧ w'.cell? ⟨gq, 4, none⟩ = some (.int .i64 D.co) ∧ w'.cell? ⟨gq, 5, none⟩ = some (.int .i64 D.ct) ∧ w'.cell? ⟨gq, 6, none⟩ = some (.int .i64 D.cl)) (ds := []) #[false, false, false, false, false, false, false, false, false, false, false, false, false, false, false, false, false, false, false, false, false, false, false, false, false, false] (by kernel_rfl) rfl rfl ⟨z1, z3, z4, z5, z6⟩ (fun hHeld => ?_)
        refine pure_ (i := 0) (N := some 62) (v := ?_) (a' := ?_) #[true, false, false, false, false, false, false, false, false, false, false, false, false, false, false, false, false, false, false, false, false, false, false, false, false, false] rfl rfl (by kernel_rfl) (fun _ _ _ h => h) (Or.inl ⟨by rfl, ?_⟩) ?_ ?_
        rotate_left
        · intro w'
          go_simp
          with_reducible rfl
        rotate_left
        · simp only [Act.put, List.setIfInBounds_toArray, List.set_cons_zero, List.set_cons_succ, i64_w, i32_w]
          rfl
        refine pure_ (i := 2) (N := some 64) (v := ?_) (a' := ?_) #[true, false, true, false, false, false, false, false, false, false, false, false, false, false, false, false, false, false, false, false, false, false, false, false, false, false] rfl rfl (by kernel_rfl) (fun _ _ _ h => h) (Or.inl ⟨by rfl, ?_⟩) ?_ ?_
        rotate_left
        · intro w'
          go_simp
          with_reducible rfl
        rotate_left
        · simp only [Act.put, List.setIfInBounds_toArray, List.set_cons_zero, List.set_cons_succ, i64_w, i32_w]
          rfl
        refine take_ (i := 3) (N := some 65) (v := ?_) (a' := ?_) #[true, false, true, true, false, false, false, false, false, false, false, false, false, false, false, false, false, false, false, false, false, false, false, false, false, false] rfl rfl (by kernel_rfl) (fun _ _ _ h => h) (Or.inl ⟨by rfl, ?_⟩) hHeld ?_ ?_
        rotate_left
        · rintro w' ⟨s0, s1, s2, s3, s4⟩
          go_simp
          with_reducible rfl
        rotate_left
        · simp only [Act.put, List.setIfInBounds_toArray, List.set_cons_zero, List.set_cons_succ, i64_w, i32_w]
          rfl
        refine pure_ (i := 4) (N := some 66) (v := ?_) (a' := ?_) #[true, false, true, true, true, false, false, false, false, false, false, false, false, false, false, false, false, false, false, false, false, false, false, false, false, false] rfl rfl (by kernel_rfl) (fun _ _ _ h => h) (Or.inl ⟨by rfl, ?_⟩) ?_ ?_
        rotate_left
        · intro w'
          go_simp
          with_reducible rfl
        rotate_left
        · simp only [Act.put, List.setIfInBounds_toArray, List.set_cons_zero, List.set_cons_succ, i64_w, i32_w]
          rfl
        refine one_ (i := 1) (N := some 63) #[true, true, true, true, true, false, false, false, false, false, false, false, false, false, false, false, false, false, false, false, false, false, false, false, false, false] rfl rfl (by kernel_rfl) (by decide) (fun K hK => ?_)
        refine goes_ Try.func12 (by kernel_rfl) rfl #[.pointer (some ⟨gd, 0, none⟩)] (by rfl) rfl rfl (by simp only [List.map_toArray, List.map_cons, List.map_nil]; rfl) ?_
        with_reducible refine (Len_calls _ _ _ _ _ _ hB.out.drew.d).mono ?_
        rintro e w5 ⟨rfl, rfl⟩
        refine ⟨_, rfl, ?_⟩
        refine hK.out _ _ ⟨hHeld.1, hHeld.2.1, hHeld.2.2.1, hHeld.2.2.2.1, hHeld.2.2.2.2⟩ (fun hHeld => ?_)
        clear hK K
        refine norm_ (a' := ?_) ?_ ?_
        rotate_left
        · show Act.put _ (some 63) _ = _
          simp only [Act.put, List.setIfInBounds_toArray, List.set_cons_zero, List.set_cons_succ, i64_w, i32_w]
          rfl
        refine pure_ (i := 5) (N := some 67) (v := ?_) (a' := ?_) #[true, true, true, true, true, true, false, false, false, false, false, false, false, false, false, false, false, false, false, false, false, false, false, false, false, false] rfl rfl (by kernel_rfl) (fun _ _ _ h => h) (Or.inl ⟨by rfl, ?_⟩) ?_ ?_
        rotate_left
        · intro w'
          go_simp
          with_reducible rfl
        rotate_left
        · simp only [Act.put, List.setIfInBounds_toArray, List.set_cons_zero, List.set_cons_succ, i64_w, i32_w]
          rfl
        refine pure_ (i := 6) (N := some 68) (v := ?_) (a' := ?_) #[true, true, true, true, true, true, true, false, false, false, false, false, false, false, false, false, false, false, false, false, false, false, false, false, false, false] rfl rfl (by kernel_rfl) (fun _ _ _ h => h) (Or.inl ⟨by rfl, ?_⟩) ?_ ?_
        rotate_left
        · intro w'
          go_simp
          with_reducible rfl
        rotate_left
        · simp only [Act.put, List.setIfInBounds_toArray, List.set_cons_zero, List.set_cons_succ, i64_w, i32_w]
          rfl
        refine pure_ (i := 7) (N := some 69) (v := ?_) (a' := ?_) #[true, true, true, true, true, true, true, true, false, false, false, false, false, false, false, false, false, false, false, false, false, false, false, false, false, false] rfl rfl (by kernel_rfl) (fun _ _ _ h => h) (Or.inl ⟨by rfl, ?_⟩) ?_ ?_
        rotate_left
        · intro w'
          go_simp
          with_reducible rfl
        rotate_left
        · simp only [Act.put, List.setIfInBounds_toArray, List.set_cons_zero, List.set_cons_succ, i64_w, i32_w]
          rfl
        refine one_ (i := 8) (N := some 70) #[true, true, true, true, true, true, true, true, true, false, false, false, false, false, false, false, false, false, false, false, false, false, false, false, false, false] rfl rfl (by kernel_rfl) (by decide) (fun K hK => ?_)
        refine goes_ Try.func18 (by kernel_rfl) rfl #[.pointer (some ⟨gd, 0, none⟩)] (by rfl) rfl rfl (by simp only [List.map_toArray, List.map_cons, List.map_nil]; rfl) ?_
        with_reducible refine (Room_v _ _ _ _ _ _ hB.out.drew.d).mono ?_
        rintro e w6 ⟨rfl, kk, rfl⟩
        refine ⟨_, rfl, ?_⟩
        refine hK.out _ _ ⟨hHeld.1, hHeld.2.1, hHeld.2.2.1, hHeld.2.2.2.1, hHeld.2.2.2.2⟩ (fun hHeld => ?_)
        clear hK K
        refine norm_ (a' := ?_) ?_ ?_
        rotate_left
        · show Act.put _ (some 70) _ = _
          simp only [Act.put, List.setIfInBounds_toArray, List.set_cons_zero, List.set_cons_succ, i64_w, i32_w]
          rfl
        refine one_ (i := 9) (N := some 71) #[true, true, true, true, true, true, true, true, true, true, false, false, false, false, false, false, false, false, false, false, false, false, false, false, false, false] rfl rfl (by kernel_rfl) (by decide) (fun K hK => ?_)
        refine goes_ Try.func19 (by kernel_rfl) rfl #[.pointer (some ⟨gq, 0, none⟩)] (by rfl) rfl rfl (by simp only [List.map_toArray, List.map_cons, List.map_nil]; rfl) ?_
        with_reducible refine (RRoom_v _ _ _ _ _ (hB.out.drew.drewN kk).q).mono ?_
        rintro e w7 ⟨rfl, kk2, rfl⟩
        refine ⟨_, rfl, ?_⟩
        refine hK.out _ _ ⟨hHeld.1, hHeld.2.1, hHeld.2.2.1, hHeld.2.2.2.1, hHeld.2.2.2.2⟩ (fun hHeld => ?_)
        clear hK K
        refine norm_ (a' := ?_) ?_ ?_
        rotate_left
        · show Act.put _ (some 71) _ = _
          simp only [Act.put, List.setIfInBounds_toArray, List.set_cons_zero, List.set_cons_succ, i64_w, i32_w]
          rfl
        refine pure_ (i := 10) (N := some 72) (v := ?_) (a' := ?_) #[true, true, true, true, true, true, true, true, true, true, true, false, false, false, false, false, false, false, false, false, false, false, false, false, false, false] rfl rfl (by kernel_rfl) (fun _ _ _ h => h) (Or.inl ⟨by rfl, ?_⟩) ?_ ?_
        rotate_left
        · intro w'
          go_simp
          with_reducible rfl
        rotate_left
        · simp only [Act.put, List.setIfInBounds_toArray, List.set_cons_zero, List.set_cons_succ, i64_w, i32_w]
          rfl
        refine pure_ (i := 11) (N := some 73) (v := ?_) (a' := ?_) #[true, true, true, true, true, true, true, true, true, true, true, true, false, false, false, false, false, false, false, false, false, false, false, false, false, false] rfl rfl (by kernel_rfl) (fun _ _ _ h => h) (Or.inl ⟨by rfl, ?_⟩) ?_ ?_
        rotate_left
        · intro w'
          go_simp
          with_reducible rfl
        rotate_left
        · simp only [Act.put, List.setIfInBounds_toArray, List.set_cons_zero, List.set_cons_succ, i64_w, i32_w]
          rfl
        refine pure_ (i := 12) (N := some 74) (v := ?_) (a' := ?_) #[true, true, true, true, true, true, true, true, true, true, true, true, true, false, false, false, false, false, false, false, false, false, false, false, false, false] rfl rfl (by kernel_rfl) (fun _ _ _ h => h) (Or.inl ⟨by rfl, ?_⟩) ?_ ?_
        rotate_left
        · intro w'
          go_simp
          with_reducible rfl
        rotate_left
        · simp only [Act.put, List.setIfInBounds_toArray, List.set_cons_zero, List.set_cons_succ, i64_w, i32_w]
          rfl
        refine pure_ (i := 13) (N := some 75) (v := ?_) (a' := ?_) #[true, true, true, true, true, true, true, true, true, true, true, true, true, true, false, false, false, false, false, false, false, false, false, false, false, false] rfl rfl (by kernel_rfl) (fun _ _ _ h => h) (Or.inl ⟨by rfl, ?_⟩) ?_ ?_
        rotate_left
        · intro w'
          go_simp
          with_reducible rfl
        rotate_left
        · simp only [Act.put, List.setIfInBounds_toArray, List.set_cons_zero, List.set_cons_succ, i64_w, i32_w]
          rfl
        refine pure_ (i := 15) (N := some 77) (v := ?_) (a' := ?_) #[true, true, true, true, true, true, true, true, true, true, true, true, true, true, false, true, false, false, false, false, false, false, false, false, false, false] rfl rfl (by kernel_rfl) (fun _ _ _ h => h) (Or.inl ⟨by rfl, ?_⟩) ?_ ?_
        rotate_left
        · intro w'
          go_simp
          with_reducible rfl
        rotate_left
        · simp only [Act.put, List.setIfInBounds_toArray, List.set_cons_zero, List.set_cons_succ, i64_w, i32_w]
          rfl
        refine take_ (i := 16) (N := some 78) (v := ?_) (a' := ?_) #[true, true, true, true, true, true, true, true, true, true, true, true, true, true, false, true, true, false, false, false, false, false, false, false, false, false] rfl rfl (by kernel_rfl) (fun _ _ _ h => h) (Or.inl ⟨by rfl, ?_⟩) hHeld ?_ ?_
        rotate_left
        · rintro w' ⟨s0, s1, s2, s3, s4⟩
          go_simp
          with_reducible rfl
        rotate_left
        · simp only [Act.put, List.setIfInBounds_toArray, List.set_cons_zero, List.set_cons_succ, i64_w, i32_w]
          rfl
        refine one_ (i := 14) (N := some 76) #[true, true, true, true, true, true, true, true, true, true, true, true, true, true, true, true, true, false, false, false, false, false, false, false, false, false] rfl rfl (by kernel_rfl) (by decide) (fun K hK => ?_)
        refine goes_ Try.func15 (by kernel_rfl) rfl #[.pointer (some ⟨gd, 0, none⟩)] (by rfl) rfl rfl (by simp only [List.map_toArray, List.map_cons, List.map_nil]; rfl) ?_
        with_reducible refine (Count_calls _ _ _ _ _ _ ((hB.out.drew.drewN kk).drewN kk2).d).mono ?_
        rintro e w8 ⟨rfl, hb8⟩
        refine ⟨_, rfl, ?_⟩
        have hB8 := Lib.hid (((hB.out.drew.drewN kk).drewN kk2).thin hb8)
        refine hK.out _ _ ⟨pw_cell_below hb8 hHeld.1, pw_cell_below hb8 hHeld.2.1, pw_cell_below hb8 hHeld.2.2.1, pw_cell_below hb8 hHeld.2.2.2.1, pw_cell_below hb8 hHeld.2.2.2.2⟩ (fun hHeld => ?_)
        clear hK K
        refine norm_ (a' := ?_) ?_ ?_
        rotate_left
        · show Act.put _ (some 76) _ = _
          simp only [Act.put, List.setIfInBounds_toArray, List.set_cons_zero, List.set_cons_succ, i64_w, i32_w]
          rfl
        refine pure_ (i := 17) (N := some 79) (v := ?_) (a' := ?_) #[true, true, true, true, true, true, true, true, true, true, true, true, true, true, true, true, true, true, false, false, false, false, false, false, false, false] rfl rfl (by kernel_rfl) (fun _ _ _ h => h) (Or.inl ⟨by rfl, ?_⟩) ?_ ?_
        rotate_left
        · intro w'
          go_simp
          with_reducible rfl
        rotate_left
        · simp only [Act.put, List.setIfInBounds_toArray, List.set_cons_zero, List.set_cons_succ, i64_w, i32_w]
          rfl
        refine pure_ (i := 18) (N := some 80) (v := ?_) (a' := ?_) #[true, true, true, true, true, true, true, true, true, true, true, true, true, true, true, true, true, true, true, false, false, false, false, false, false, false] rfl rfl (by kernel_rfl) (fun _ _ _ h => h) (Or.inl ⟨by rfl, ?_⟩) ?_ ?_
        rotate_left
        · intro w'
          go_simp
          with_reducible rfl
        rotate_left
        · simp only [Act.put, List.setIfInBounds_toArray, List.set_cons_zero, List.set_cons_succ, i64_w, i32_w]
          rfl
        refine pure_ (i := 19) (N := some 81) (v := ?_) (a' := ?_) #[true, true, true, true, true, true, true, true, true, true, true, true, true, true, true, true, true, true, true, true, false, false, false, false, false, false] rfl rfl (by kernel_rfl) (fun _ _ _ h => h) (Or.inl ⟨by rfl, ?_⟩) ?_ ?_
        rotate_left
        · intro w'
          go_simp
          with_reducible rfl
        rotate_left
        · simp only [Act.put, List.setIfInBounds_toArray, List.set_cons_zero, List.set_cons_succ, i64_w, i32_w]
          rfl
        refine pure_ (i := 20) (N := some 82) (v := ?_) (a' := ?_) #[true, true, true, true, true, true, true, true, true, true, true, true, true, true, true, true, true, true, true, true, true, false, false, false, false, false] rfl rfl (by kernel_rfl) (fun _ _ _ h => h) (Or.inl ⟨by rfl, ?_⟩) ?_ ?_
        rotate_left
        · intro w'
          go_simp
          with_reducible rfl
        rotate_left
        · simp only [Act.put, List.setIfInBounds_toArray, List.set_cons_zero, List.set_cons_succ, i64_w, i32_w]
          rfl
        refine one_ (i := 21) (N := some 83) #[true, true, true, true, true, true, true, true, true, true, true, true, true, true, true, true, true, true, true, true, true, true, false, false, false, false] rfl rfl (by kernel_rfl) (by decide) (fun K hK => ?_)
        refine goes_ Try.func20 (by kernel_rfl) rfl #[.pointer (some ⟨gd, 0, none⟩)] (by rfl) rfl rfl (by simp only [List.map_toArray, List.map_cons, List.map_nil]; rfl) ?_
        with_reducible refine (Done_v _ _ _ _ _ _ hB8.out.d).mono ?_
        rintro e w9 ⟨rfl, rfl⟩
        refine ⟨_, rfl, ?_⟩
        refine hK.out _ _ ⟨hHeld.1, hHeld.2.1, hHeld.2.2.1, hHeld.2.2.2.1, hHeld.2.2.2.2⟩ (fun hHeld => ?_)
        clear hK K
        refine norm_ (a' := ?_) ?_ ?_
        rotate_left
        · show Act.put _ (some 83) _ = _
          simp only [Act.put, List.setIfInBounds_toArray, List.set_cons_zero, List.set_cons_succ, i64_w, i32_w]
          rfl
        refine one_ (i := 22) (N := some 84) #[true, true, true, true, true, true, true, true, true, true, true, true, true, true, true, true, true, true, true, true, true, true, true, false, false, false] rfl rfl (by kernel_rfl) (by decide) (fun K hK => ?_)
        refine goes_ Try.func21 (by kernel_rfl) rfl #[.pointer (some ⟨gq, 0, none⟩)] (by rfl) rfl rfl (by simp only [List.map_toArray, List.map_cons, List.map_nil]; rfl) ?_
        with_reducible refine (RDone_v _ _ _ _ _ hB8.out.q).mono ?_
        rintro e w10 ⟨rfl, rfl⟩
        refine ⟨_, rfl, ?_⟩
        refine hK.out _ _ ⟨hHeld.1, hHeld.2.1, hHeld.2.2.1, hHeld.2.2.2.1, hHeld.2.2.2.2⟩ (fun hHeld => ?_)
        clear hK K
        refine norm_ (a' := ?_) ?_ ?_
        rotate_left
        · show Act.put _ (some 84) _ = _
          simp only [Act.put, List.setIfInBounds_toArray, List.set_cons_zero, List.set_cons_succ, i64_w, i32_w]
          rfl
        refine pure_ (i := 23) (N := some 85) (v := ?_) (a' := ?_) #[true, true, true, true, true, true, true, true, true, true, true, true, true, true, true, true, true, true, true, true, true, true, true, true, false, false] rfl rfl (by kernel_rfl) (fun _ _ _ h => h) (Or.inl ⟨by rfl, ?_⟩) ?_ ?_
        rotate_left
        · intro w'
          go_simp
          with_reducible rfl
        rotate_left
        · simp only [Act.put, List.setIfInBounds_toArray, List.set_cons_zero, List.set_cons_succ, i64_w, i32_w]
          rfl
        refine pure_ (i := 24) (N := some 86) (v := ?_) (a' := ?_) #[true, true, true, true, true, true, true, true, true, true, true, true, true, true, true, true, true, true, true, true, true, true, true, true, true, false] rfl rfl (by kernel_rfl) (fun _ _ _ h => h) (Or.inl ⟨by rfl, ?_⟩) ?_ ?_
        rotate_left
        · intro w'
          go_simp
          with_reducible rfl
        rotate_left
        · simp only [Act.put, List.setIfInBounds_toArray, List.set_cons_zero, List.set_cons_succ, i64_w, i32_w]
          rfl
        refine pure_ (i := 25) (N := some 4) (v := ?_) (a' := ?_) #[true, true, true, true, true, true, true, true, true, true, true, true, true, true, true, true, true, true, true, true, true, true, true, true, true, true] rfl rfl (by kernel_rfl) (fun _ _ _ h => h) (Or.inl ⟨by rfl, ?_⟩) ?_ ?_
        rotate_left
        · intro w'
          go_simp
          with_reducible rfl
        rotate_left
        · simp only [Act.put, List.setIfInBounds_toArray, List.set_cons_zero, List.set_cons_succ, i64_w, i32_w]
          rfl
        refine done_ (by kernel_rfl) ?_
        clear hHeld hb8
        go_wp2_with fail
        go_ret
        exact ⟨by simp, hB8.out.bel⟩
end Go.Proofs.Ytingiihboibcdaa.D
