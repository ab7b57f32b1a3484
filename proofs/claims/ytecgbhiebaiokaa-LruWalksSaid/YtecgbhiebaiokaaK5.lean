/- The contracts of the document's Drop and Resize, of SameInts and of Most. -/
import Derived.Test.YtecgbhiebaiokaaK4
namespace Go.Proofs.Ytecgbhiebaiokaa.G
open Go.RowKit Go.Proofs.YtecgbhiebaiokaaW.PrintWords Go.Proofs.YtecgbhiebaiokaaW.PrintLast Go.Proofs.YtecgbhiebaiokaaW.PrintMore
set_option linter.unusedSimpArgs false
set_option linter.unusedVariables false
theorem kv_erase {k : Int} : ∀ {M : KV}, KUniq M → ∀ (i : Nat) (hi : i < M.length), M[i].1 = k → kvCut k M = M.eraseIdx i
  | x :: r, hu, 0, _, hk => by
    obtain ⟨hx, hr⟩ := List.nodup_cons.1 hu
    have hk' : x.1 = k := hk
    have hn : kvHas k r = false := by
      unfold kvHas
      rw [List.any_eq_false]
      intro e he hek
      exact hx (by show x.1 ∈ _; rw [hk', ← (by simpa using hek : e.1 = k)]; exact List.mem_map_of_mem he)
    have : kvCut k (x :: r) = kvCut k r := by unfold kvCut; rw [List.filter_cons, if_neg (by simp [hk'])]
    rw [this, kvCut_none hn]
    rfl
  | x :: r, hu, i + 1, hi, hk => by
    obtain ⟨hx, hr⟩ := List.nodup_cons.1 hu
    have hk' : (r[i]'(by simpa using hi)).1 = k := hk
    have hne : x.1 ≠ k := fun h => hx (by show x.1 ∈ _; rw [h, ← hk']; exact List.mem_map_of_mem (List.getElem_mem _))
    rw [kvCut_cons hne, kv_erase hr i (by simpa using hi) hk']
    rfl
theorem take_key {M Mj : KV} {p q : Nat} (he : Mj = M.take p) (hq : q < Mj.length) (hq2 : q < M.length) : M[q].1 = Mj[q].1 := by
  subst he
  rw [List.getElem_take]
theorem shr_take {M Mj : KV} {j q : Nat} (he : Mj = M.take (M.length - j)) (hq : q + 1 = Mj.length) : Mj.eraseIdx q = M.take (M.length - (j + 1)) := by
  have h1 : Mj.eraseIdx q = Mj.dropLast := by
    rw [show q = Mj.length - 1 from by omega]
    exact List.eraseIdx_length_sub_one
  rw [h1, he, List.dropLast_eq_take, List.take_take, List.length_take]
  congr 1
  omega
theorem wrap_q {q : Nat} (h : q ≤ 10000) : wrap64 (q : Int) = q ∧ wrap64 ((q : Int) + 1 - 1) = q ∧ (q : Int) < (q : Int) + 1 := by
  unfold wrap64
  omega
theorem erase_le (M : KV) (q : Nat) : (M.eraseIdx q).length ≤ M.length := by
  rw [List.length_eraseIdx]
  split <;> omega
theorem kv_place {k : Int} {M : KV} (h : kvHas k M = true) : ∃ i, ∃ hi : i < M.length, M[i].1 = k := by
  obtain ⟨e, he, hk⟩ := List.any_eq_true.1 h
  obtain ⟨i, hi, rfl⟩ := List.getElem_of_mem he
  exact ⟨i, hi, by simpa using hk⟩
theorem KUniq.drops : ∀ (keys : List Int) {M : KV}, KUniq M → KUniq (kvDrops keys M)
  | [], _, h => h
  | k :: r, M, h => KUniq.drops r (M := kvCut k M) h.cut
theorem run_app1 {W : World} {B : Nat} {v : Value} {xs : List Int} (y : Int) (HO : Own W B v xs) (hbase : B ≤ W.heap.size) (hl : xs.length + 1 ≤ 10000000000000) (ty : TypeId) :
    ∃ v1 w1, (Builtin.append_ #[28, 28] ty #[v, .slice (some ⟨W.heap.size, 0, none⟩) 1 1]).run Try.prog (W.alloc (.cells #[.int .i64 y] 3)) = .ok v1 w1 ∧ Own w1 B v1 (xs ++ [y]) ∧ W.grownBy w1 v.ownBlock := by
  obtain ⟨i0, hi, hzz⟩ := Option.map_eq_some_iff.1 info3
  simp only [Prod.mk.injEq] at hzz
  obtain ⟨hz0, hz1, hz2⟩ := hzz
  have HO2 : (W.alloc (.cells #[.int .i64 y] 3)).ownsRow B 3 1 v xs.length (nums .i64 xs) := World.ownsRow.alloc HO _
  obtain ⟨v1, w1, hr, hown, hg, -, -⟩ := run_append_own_at (P := Try.prog) (W.alloc (.cells #[.int .i64 y] 3)) B 28 ty 3 i0 (.int .i64 0) 1 8 Try.underlying28 hi hz0 hz1 hz2 rfl (by omega) v xs.length (nums .i64 xs) HO2 ⟨W.heap.size, 0, none⟩ 1 1 [.int .i64 y] rfl
    (World.news_of_block (cs := #[.int .i64 y]) (t := 3) (fr := (0, 0)) (heap_alloc_new W _)) (by simp [Value.oneCell']) (by simp only [maxLen]; omega) (by omega) (by simp; omega)
  exact ⟨v1, w1, hr, by simpa [Own, nums] using hown, World.grownBy.trans (World.grownBy_alloc W _ _) hg⟩
theorem Most_I (w : World) (B gm gb : Nat) (most h m g : Int) (L : List (Ent Int)) (hM : Memo ktI w B gm gb most h m g L) :
    Calls Try.prog 36 #[.pointer (some ⟨gm, 0, none⟩)] w fun e w' => e = .returned (.int .i64 most) ∧ w = w' := by
  have q0 : w.cell? ⟨gm, 0, none⟩ = some (.int .i64 most) := blk_cell hM.ch.mem 0
  have HM := Lib.hid hM
  clear hM
  go_enter Try.func36, Try.ntmps36
  go_wp2_with (first | (go_at_call 28; go_must (refine (made_I w B gm gb most h m g L HM.out).mono ?_); rintro e w' ⟨rfl, rfl⟩))
  go_ret
  exact ⟨rfl, rfl⟩
set_option maxHeartbeats 2000000 in
theorem Same_calls (w : World) (A1 A2 : Option Addr) (c1 c2 : Nat) (l : List Int) (h1 : KeysRd w A1 l) (h2 : KeysRd w A2 l) :
    Calls Try.prog 23 #[.slice A1 l.length c1, .slice A2 l.length c2] w fun e w' => e = .returned (.bool true) ∧ ∃ n, w' = w.drewN n := by
  have hl := h1.2.1
  have H1 := Lib.hid h1
  have H2 := Lib.hid h2
  have e0 : ((l.length : Int) == (l.length : Int)) = true := by simp
  clear h1 h2
  go_enter Try.func23, Try.ntmps23
  go_wp2_with fail
  go_loopw [5] (fun z wr => ∃ (i n : Nat), z = .int .i64 i ∧ i ≤ l.length ∧ wr = w.drewN n) (fun z _ => l.length - (intOf z).toNat)
  case atStart => exact ⟨0, 0, rfl, by omega, rfl⟩
  case round =>
    obtain ⟨i, n, rfl, hi, rfl⟩ := hrel
    by_cases hlt : i < l.length
    · obtain ⟨ad1, rfl, hc1⟩ := KeysRd.get H1.out hlt
      obtain ⟨ad2, rfl, hc2⟩ := KeysRd.get H2.out hlt
      obtain ⟨x, hx⟩ : ∃ x, x = l[i] := ⟨_, rfl⟩
      rw [← hx] at hc1 hc2
      replace hx := Lib.hid hx
      have q1 : (w.drewN n).cell? (ad1.add i) = some (.int .i64 x) := hc1
      have q2 : (w.drewN n).cell? (ad2.add i) = some (.int .i64 x) := hc2
      have e1 : (x == x) = true := by simp
      have e2 : (i : Int) < (l.length : Int) := by omega
      clear hc1 hc2
      go_wp2_with fail
      refine start_ (n := 9) (S := fun w' => w'.cell? (ad1.add i) = some (.int .i64 x) ∧ w'.cell? (ad2.add i) = some (.int .i64 x)) (ds := []) #[false, false, false, false, false, false, false, false, false] (by kernel_rfl) rfl rfl ⟨q1, q2⟩ (fun hHeld => ?_)
      refine pure_ (i := 0) (N := some 17) (v := ?_) (a' := ?_) #[true, false, false, false, false, false, false, false, false] rfl rfl (by kernel_rfl) (fun _ _ _ h => h) (Or.inl ⟨by rfl, ?_⟩) ?_ ?_
      rotate_left
      · intro w'
        go_simp
        with_reducible rfl
      rotate_left
      · simp only [Act.put, List.setIfInBounds_toArray, List.set_cons_zero, List.set_cons_succ, i64_w, i32_w]
        rfl
      refine pure_ (i := 1) (N := some 18) (v := ?_) (a' := ?_) #[true, true, false, false, false, false, false, false, false] rfl rfl (by kernel_rfl) (fun _ _ _ h => h) (Or.inl ⟨by rfl, ?_⟩) ?_ ?_
      rotate_left
      · intro w'
        go_simp
        with_reducible rfl
      rotate_left
      · simp only [Act.put, List.setIfInBounds_toArray, List.set_cons_zero, List.set_cons_succ, i64_w, i32_w]
        rfl
      refine pure_ (i := 2) (N := some 19) (v := ?_) (a' := ?_) #[true, true, true, false, false, false, false, false, false] rfl rfl (by kernel_rfl) (fun _ _ _ h => h) (Or.inl ⟨by rfl, ?_⟩) ?_ ?_
      rotate_left
      · intro w'
        go_simp
        with_reducible rfl
      rotate_left
      · simp only [Act.put, List.setIfInBounds_toArray, List.set_cons_zero, List.set_cons_succ, i64_w, i32_w]
        rfl
      refine pure_ (i := 4) (N := some 21) (v := ?_) (a' := ?_) #[true, true, true, false, true, false, false, false, false] rfl rfl (by kernel_rfl) (fun _ _ _ h => h) (Or.inl ⟨by rfl, ?_⟩) ?_ ?_
      rotate_left
      · intro w'
        go_simp
        with_reducible rfl
      rotate_left
      · simp only [Act.put, List.setIfInBounds_toArray, List.set_cons_zero, List.set_cons_succ, i64_w, i32_w]
        rfl
      refine pure_ (i := 5) (N := some 22) (v := ?_) (a' := ?_) #[true, true, true, false, true, true, false, false, false] rfl rfl (by kernel_rfl) (fun _ _ _ h => h) (Or.inl ⟨by rfl, ?_⟩) ?_ ?_
      rotate_left
      · intro w'
        go_simp
        with_reducible rfl
      rotate_left
      · simp only [Act.put, List.setIfInBounds_toArray, List.set_cons_zero, List.set_cons_succ, i64_w, i32_w]
        rfl
      refine pure_ (i := 6) (N := some 23) (v := ?_) (a' := ?_) #[true, true, true, false, true, true, true, false, false] rfl rfl (by kernel_rfl) (fun _ _ _ h => h) (Or.inl ⟨by rfl, ?_⟩) ?_ ?_
      rotate_left
      · intro w'
        go_simp
        with_reducible rfl
      rotate_left
      · simp only [Act.put, List.setIfInBounds_toArray, List.set_cons_zero, List.set_cons_succ, i64_w, i32_w]
        rfl
      refine take_ (i := 3) (N := some 20) (v := ?_) (a' := ?_) #[true, true, true, true, true, true, true, false, false] rfl rfl (by kernel_rfl) (fun _ _ _ h => h) (Or.inl ⟨by rfl, ?_⟩) hHeld ?_ ?_
      rotate_left
      · rintro w' ⟨s0, s1⟩
        go_simp
        with_reducible rfl
      rotate_left
      · simp only [Act.put, List.setIfInBounds_toArray, List.set_cons_zero, List.set_cons_succ, i64_w, i32_w]
        rfl
      refine take_ (i := 7) (N := some 24) (v := ?_) (a' := ?_) #[true, true, true, true, true, true, true, true, false] rfl rfl (by kernel_rfl) (fun _ _ _ h => h) (Or.inl ⟨by rfl, ?_⟩) hHeld ?_ ?_
      rotate_left
      · rintro w' ⟨s0, s1⟩
        go_simp
        with_reducible rfl
      rotate_left
      · simp only [Act.put, List.setIfInBounds_toArray, List.set_cons_zero, List.set_cons_succ, i64_w, i32_w]
        rfl
      refine pure_ (i := 8) (N := some 25) (v := ?_) (a' := ?_) #[true, true, true, true, true, true, true, true, true] rfl rfl (by kernel_rfl) (fun _ _ _ h => h) (Or.inl ⟨by rfl, ?_⟩) ?_ ?_
      rotate_left
      · intro w'
        go_simp
        with_reducible rfl
      rotate_left
      · simp only [Act.put, List.setIfInBounds_toArray, List.set_cons_zero, List.set_cons_succ, i64_w, i32_w]
        rfl
      refine done_ (by kernel_rfl) ?_
      clear hHeld
      go_wp2_with fail
      go_roundw
      case rel => exact ⟨i + 1, n + 1, by go_num, by omega, rfl⟩
      case measure => simp [intOf]; omega
    · go_wp2_with fail
      go_ret
      exact ⟨rfl, n, rfl⟩
set_option maxRecDepth 100000 in
set_option maxHeartbeats 4000000 in
theorem RDrop_calls (w : World) (B gq : Nat) (sz h m g : Int) (v : Value) (M : KV) (r : RM w B gq sz h m g v M) (hu : KUniq M) (A : Option Addr) (c : Nat) (keys : List Int) (hlen : keys.length ≤ 9223372036854775807) (hkr : ∀ W', Chg w W' (fun q => q = gq) → KeysRd W' A keys) :
    Calls Try.prog 21 #[.pointer (some ⟨gq, 0, none⟩), .slice A keys.length c] w fun e w' => e = .returned (.int .i64 (M.length - (kvDrops keys M).length)) ∧ ∃ v', RM w' B gq sz h m g v' (kvDrops keys M) ∧ Chg w w' (fun q => q = gq) := by
  have hln := r.ln
  have hR := Lib.hid r
  have hC := Lib.hid (Chg.refl w (fun q => q = gq))
  have HK := Lib.hid hkr
  have HU := Lib.hid hu
  clear r hkr hu
  go_enter Try.func21, Try.ntmps21
  go_wp2_with fail
  go_loopw [5, 6] (fun n z wr => ∃ (j : Nat) (vj : Value) (Mj : KV), z = .int .i64 j ∧ j ≤ keys.length ∧ n = .int .i64 ((M.length : Int) - Mj.length) ∧ Mj.length ≤ M.length ∧ Hid (Mj = kvDrops (keys.take j) M) ∧ Hid (RM wr B gq sz h m g vj Mj) ∧ Hid (Chg w wr (fun q => q = gq))) (fun _ z _ => keys.length - (intOf z).toNat)
  case atStart => exact ⟨0, v, M, rfl, by omega, by simp, Nat.le_refl _, rfl, hR, hC⟩
  case round =>
    clear hR hC v
    obtain ⟨j, v, Mj, rfl, hj, rfl, hll, hMj, hR, hC⟩ := hrel
    by_cases hlt : j < keys.length
    · obtain ⟨ad, rfl, hcell⟩ := KeysRd.get (HK.out wr hC.out) hlt
      have hUj : KUniq Mj := by rw [hMj.out]; exact HU.out.drops _
      have hst : Hid (kvDrops (keys.take (j + 1)) M = kvCut keys[j] Mj) := by
        show _ = _
        rw [kvDrops_take hlt, hMj.out]
      obtain ⟨k, hk⟩ : ∃ k, k = keys[j] := ⟨_, rfl⟩
      rw [← hk] at hcell hst
      replace hk := Lib.hid hk
      cases hh : kvHas k Mj with
      | false =>
        have hat := Lib.hid (at_miss wr B gq sz h m g v Mj k hR.out hh)
        have hst2 : Hid (Mj = kvDrops (keys.take (j + 1)) M) := by
          show _ = _
          rw [hst.out, kvCut_none hh]
        replace hh := Lib.hid hh
        clear hst hUj
        go_wp2_with (first | (go_at_call 37; go_must (refine hat.out.mono ?_); rintro e w' ⟨rfl, rfl⟩))
        go_roundw
        case rel => exact ⟨j + 1, v, Mj, by go_num, by omega, rfl, hll, hst2, hR, hC⟩
        case measure => simp [intOf]; omega
      | true =>
        obtain ⟨i, hi, hik⟩ := kv_place hh
        have hat := Lib.hid (at_hit wr B gq sz h m g v Mj k hR.out hUj i hi hik)
        have hst2 : Hid (kvDrops (keys.take (j + 1)) M = Mj.eraseIdx i) := by
          show _ = _
          rw [hst.out, kv_erase hUj i hi hik]
        have hle : (Mj.eraseIdx i).length + 1 = Mj.length := by rw [List.length_eraseIdx, if_pos hi]; omega
        obtain ⟨M2, hM2⟩ : ∃ M2, M2 = Mj.eraseIdx i := ⟨_, rfl⟩
        rw [← hM2] at hle hst2
        have hwo := Lib.hid (without_calls wr B gq sz h m g v Mj hR.out i hi)
        rw [← hM2] at hwo
        replace hM2 := Lib.hid hM2
        replace hh := Lib.hid hh
        replace hik := Lib.hid hik
        clear hst hUj
        go_wp2_with (first | (go_at_call 37; go_must (refine hat.out.mono ?_); rintro e w' ⟨rfl, rfl⟩))
        refine hwo.out.mono ?_
        clear hwo
        rintro e w4 ⟨v4, rfl, ho4, hb4⟩
        have hR4 := hR.out.below hb4
        replace ho4 := own_weaken ho4 (Nat.le_trans hR.out.b (Nat.le_of_lt (blk_lt hR.out.q)))
        obtain ⟨A5, c5, rfl, -, -⟩ := OwnP.rd ho4
        have p1 := blk_cell hR4.q 1
        have pf1 := blk_frozen hR4.q 1
        simp only [List.getElem?_toArray, List.getElem?_cons_zero, List.getElem?_cons_succ] at p1
        have R5 := Lib.hid (hR4.setL ho4 (by omega))
        have C5 := Lib.hid ((hC.out.trans (Chg.of_below hb4 (fun q => False)) (fun _ _ h => h.elim)).set_ (p := ⟨gq, 1, none⟩) rfl (.slice A5 M2.length c5))
        replace ho4 := Lib.hid ho4
        clear hR4 hb4
        go_wp2_with fail
        go_roundw
        case rel => exact ⟨j + 1, _, M2, by go_num, by omega, int_eq (by omega), by omega, hst2.out.symm, R5, C5⟩
        case measure => simp [intOf]; omega
    · have hje : j = keys.length := by omega
      have hst2 : Hid (Mj = kvDrops keys M) := by
        show _ = _
        have := hMj.out
        rwa [hje, List.take_length] at this
      clear hje hMj
      go_wp2_with fail
      go_ret
      refine ⟨?_, v, ?_, hC.out⟩
      · rw [← hst2.out]
        rfl
      · rw [← hst2.out]
        exact hR.out
theorem RResize_bad (w : World) (gq : Nat) (n : Int) (hn : n < 1 ∨ 4096 < n) :
    Calls Try.prog 22 #[.pointer (some ⟨gq, 0, none⟩), .int .i64 n] w fun e w' => e = .returned (.tuple #[.slice none 0 0, .int .i64 1]) ∧ w = w' := by
  by_cases h1 : n < 1
  · clear hn
    go_enter Try.func22, Try.ntmps22
    go_wp2_with fail
    go_ret2
    exact ⟨rfl, rfl⟩
  · have h2 : 4096 < n := by omega
    clear hn
    go_enter Try.func22, Try.ntmps22
    go_wp2_with fail
    go_ret2
    exact ⟨rfl, rfl⟩
/-- the document's memo on its way to another size -/
structure RShr (w wr : World) (B gq : Nat) (sz h m g : Int) (M Mj : KV) (j : Nat) (vj v : Value) : Prop where
  r : RM wr B gq sz h m (g + j) vj Mj
  eq : Mj = M.take (M.length - j)
  ch : Chg w wr (fun q => q = gq)
  ow : Own wr w.heap.size v (kvGone (M.length - j) M)
theorem Own.apartR {w : World} {B B' gq : Nat} {v vq : Value} {l : List Int} {sz h m g : Int} {M : KV} (ho : Own w B v l) (r : RM w B' gq sz h m g vq M) : v.ownBlock ≠ some gq := fun e => own_ne ho r.q (by decide) e.symm
theorem RM.growI {w w1 : World} {B B' gq : Nat} {v vq : Value} {l : List Int} {sz h m g : Int} {M : KV} (r : RM w B' gq sz h m g vq M) (ho : Own w B v l) (hg : w.grownBy w1 v.ownBlock) : RM w1 B' gq sz h m g vq M :=
  ⟨blk_grown r.q hg (own_ne ho r.q (by decide)), own_other r.o hg (own_type_ne r.o ho (by decide)), r.b, r.ln⟩
set_option maxRecDepth 100000 in
set_option maxHeartbeats 8000000 in
theorem RResize_calls (w : World) (B gq : Nat) (sz h m g : Int) (v : Value) (M : KV) (n : Nat) (r : RM w B gq sz h m g v M) (hB : B ≤ w.heap.size) (hn1 : 1 ≤ n) (hn2 : n ≤ 4096) (hg0 : 0 ≤ g) (hg : g + 8192 ≤ 1152921504606846976) :
    Calls Try.prog 22 #[.pointer (some ⟨gq, 0, none⟩), .int .i64 n] w fun e w' => ∃ v1, e = .returned (.tuple #[v1, .int .i64 0]) ∧ Own w' w.heap.size v1 (kvGone n M) ∧ ∃ v', RM w' B gq n h m (g + (M.length - n : Nat)) v' (M.take n) ∧ Chg w w' (fun q => q = gq) := by
  have hln := r.ln
  have h1 : ¬ ((n : Int) < 1) := by omega
  have h2 : ¬ (4096 < (n : Int)) := by omega
  have q0 := blk_cell r.q 0
  have f0 := blk_frozen r.q 0
  simp only [List.getElem?_toArray, List.getElem?_cons_zero, List.getElem?_cons_succ] at q0
  have hS : Hid (RShr w (w.setCell ⟨gq, 0, none⟩ (.int .i64 n)) B gq n h m g M M 0 v (.slice none 0 0)) :=
    ⟨by rw [show g + ((0 : Nat) : Int) = g from by simp]; exact r.set0 n, by simp, (Chg.refl w (fun q => q = gq)).set_ rfl _, by rw [Nat.sub_zero, kvGone_all (Nat.le_refl _)]; exact own_nil _ _ _ _⟩
  clear r
  go_enter Try.func22, Try.ntmps22
  go_wp2_with fail
  go_loopw [6] (fun vl wr => ∃ (j : Nat) (Mj : KV) (vj : Value), lenV vl = j ∧ j ≤ M.length ∧ j ≤ M.length - n ∧ Hid (RShr w wr B gq n h m g M Mj j vj vl)) (fun vl _ => M.length - lenV vl)
  case atStart => exact ⟨0, M, v, rfl, by omega, by omega, hS⟩
  case round =>
    clear hS q0 f0
    obtain ⟨j, Mj, vj, hv, hj, hjn, hS⟩ := hrel
    have hlen : Mj.length = M.length - j := by rw [hS.out.eq, List.length_take]; omega
    obtain ⟨l0, hl0⟩ : ∃ l0, l0 = kvGone (M.length - j) M := ⟨_, rfl⟩
    have hl0n : l0.length = j := by rw [hl0, kvGone_len]; omega
    have hol := hS.out.ow
    rw [← hl0] at hol
    obtain ⟨Av, cv, rfl, -⟩ := own_rd hol
    obtain ⟨A, c, rfl, hc, hrd⟩ := hS.out.r.o.rd
    have y1 : wr.cell? ⟨gq, 1, none⟩ = some (.slice A Mj.length c) := blk_cell hS.out.r.q 1
    replace hl0n := Lib.hid hl0n
    replace hol := Lib.hid hol
    by_cases hlt : n < Mj.length
    · have hd : ((n : Int) < (Mj.length : Int)) := by omega
      obtain ⟨q, hq⟩ : ∃ q, q + 1 = Mj.length := ⟨Mj.length - 1, by omega⟩
      have hql : q < Mj.length := by omega
      obtain ⟨ad, rfl, yk, -⟩ := hrd.at_ hql
      have hx : Hid (kvGone (M.length - (j + 1)) M = l0 ++ [Mj[q].1]) := by
        have e : M.length - j = M.length - (j + 1) + 1 := by omega
        have hqe : q = M.length - (j + 1) := by omega
        subst hqe
        show _ = _
        have hlt2 : M.length - (j + 1) < M.length := by omega
        rw [hl0, kvGone_step hlt2, ← e]
        congr 2
        rw [take_key hS.out.eq hql hlt2]
      obtain ⟨k0, hk0⟩ : ∃ k0, k0 = Mj[q].1 := ⟨_, rfl⟩
      rw [← hk0] at yk hx
      replace hk0 := Lib.hid hk0
      replace hlen := Lib.hid hlen
      replace hl0 := Lib.hid hl0
      have hd2 : (n : Int) < (q : Int) + 1 := by omega
      rw [← hq] at y1
      have hsz : w.heap.size ≤ wr.heap.size := hS.out.ch.size
      have hrr := run_app1 (W := wr.drew) k0 (B := w.heap.size) (v := .slice Av l0.length cv) (xs := l0) hol.out hsz (by have := hl0n.out; omega) 28
      obtain ⟨v6, w6, hr6', ho6, hg6⟩ := hrr
      have hR6 : RM w6 B gq n h m (g + j) (.slice (some ad) Mj.length c) Mj := (show RM wr.drew B gq n h m (g + j) (.slice (some ad) Mj.length c) Mj from hS.out.r.drewN 1).growI (show Own wr.drew w.heap.size (.slice Av l0.length cv) l0 from hol.out) hg6
      have hC6 : Hid (Chg w w6 (fun z => z = gq)) := (hS.out.ch.drewN 1).trans (Chg.of_grown hg6) (fun z hz e => absurd (own_base hol.out z e.symm) (by omega))
      obtain ⟨l1, hl1⟩ : ∃ l1, l1 = l0 ++ [k0] := ⟨_, rfl⟩
      rw [← hl1] at ho6 hx
      have hl1n : Hid (l1.length = j + 1) := by show _ = _; rw [hl1, List.length_append, hl0n.out]; rfl
      replace hl1 := Lib.hid hl1
      obtain ⟨A8, c8, rfl, -⟩ := own_rd ho6
      have hr6 : (Builtin.append_ #[28, 28] 28 #[.slice Av l0.length cv, .slice (some ⟨wr.heap.size, 0, none⟩) 1 1]).run Try.prog (World.drew (World.alloc wr (.cells #[.int .i64 k0] 3))) = .ok (.slice A8 l1.length c8) w6 := hr6'
      have z6 : w6.cell? ⟨gq, 1, none⟩ = some (.slice (some ad) (q + 1) c) := by rw [hq]; exact blk_cell hR6.q 1
      have zk6 : w6.cell? (ad.add (q * 2)) = some (.int .i64 k0) := by
        obtain ⟨A', c', he, -, hrd'⟩ := hR6.o.rd
        injection he with he1 he2 he3
        subst he1
        obtain ⟨ad', he4, hk', -⟩ := hrd'.at_ hql
        injection he4 with he4
        subst he4
        rw [hk', hk0.out]
      have hbl : Below wr.drew.heap.size wr.drew (World.alloc wr.drew (.cells #[.int .i64 k0] 3)) := below_alloc (Below.refl _ wr.drew) _
      have hsz6 : w.heap.size ≤ w6.heap.size := hC6.out.size
      have hMl0 : Mj.length ≤ 4097 := hS.out.r.ln
      have hq10 : q ≤ 10000 := by clear hg hg0; omega
      obtain ⟨e1, e2, e3⟩ := wrap_q hq10
      have hwo := Lib.hid (without_calls w6 B gq n h m (g + j) (.slice (some ad) Mj.length c) Mj hR6 q hql)
      obtain ⟨M2, hM2⟩ : ∃ M2, M2 = Mj.eraseIdx q := ⟨_, rfl⟩
      rw [← hM2] at hwo
      have hM2e : Hid (M2 = M.take (M.length - (j + 1))) := by
        show _ = _
        rw [hM2]
        exact shr_take hS.out.eq hq
      have hM2l : M2.length ≤ 4097 := by rw [hM2]; exact Nat.le_trans (erase_le _ _) hMl0
      have hlen2 := hlen.out
      replace hM2 := Lib.hid hM2
      replace hR6 := Lib.hid hR6
      replace ho6 := Lib.hid ho6
      replace hrd := Lib.hid hrd
      replace hg6 := Lib.hid hg6
      replace hM2l := Lib.hid hM2l
      replace hq := Lib.hid hq
      replace hlen2 := Lib.hid hlen2
      clear hr6'
      go_wp2_with fail
      refine start_ (n := 17) (S := fun w' => w'.cell? ⟨gq, 1, none⟩ = some (.slice (some ad) (q + 1) c) ∧ w'.cell? (ad.add (q * 2)) = some (.int .i64 k0)) (ds := []) #[false, false, false, false, false, false, false, false, false, false, false, false, false, false, false, false, false] (by kernel_rfl) rfl rfl ⟨y1, yk⟩ (fun hHeld => ?_)
      refine pure_ (i := 0) (N := some 24) (v := ?_) (a' := ?_) #[true, false, false, false, false, false, false, false, false, false, false, false, false, false, false, false, false] rfl rfl (by kernel_rfl) (fun _ _ _ h => h) (Or.inl ⟨by rfl, ?_⟩) ?_ ?_
      rotate_left
      · intro w'
        go_simp
        with_reducible rfl
      rotate_left
      · simp only [Act.put, List.setIfInBounds_toArray, List.set_cons_zero, List.set_cons_succ, i64_w, i32_w]
        rfl
      refine pure_ (i := 1) (N := some 25) (v := ?_) (a' := ?_) #[true, true, false, false, false, false, false, false, false, false, false, false, false, false, false, false, false] rfl rfl (by kernel_rfl) (fun _ _ _ h => h) (Or.inl ⟨by rfl, ?_⟩) ?_ ?_
      rotate_left
      · intro w'
        go_simp
        with_reducible rfl
      rotate_left
      · simp only [Act.put, List.setIfInBounds_toArray, List.set_cons_zero, List.set_cons_succ, i64_w, i32_w]
        rfl
      refine pure_ (i := 2) (N := some 26) (v := ?_) (a' := ?_) #[true, true, true, false, false, false, false, false, false, false, false, false, false, false, false, false, false] rfl rfl (by kernel_rfl) (fun _ _ _ h => h) (Or.inl ⟨by rfl, ?_⟩) ?_ ?_
      rotate_left
      · intro w'
        go_simp
        with_reducible rfl
      rotate_left
      · simp only [Act.put, List.setIfInBounds_toArray, List.set_cons_zero, List.set_cons_succ, i64_w, i32_w]
        rfl
      refine pure_ (i := 3) (N := some 27) (v := ?_) (a' := ?_) #[true, true, true, true, false, false, false, false, false, false, false, false, false, false, false, false, false] rfl rfl (by kernel_rfl) (fun _ _ _ h => h) (Or.inl ⟨by rfl, ?_⟩) ?_ ?_
      rotate_left
      · intro w'
        go_simp
        with_reducible rfl
      rotate_left
      · simp only [Act.put, List.setIfInBounds_toArray, List.set_cons_zero, List.set_cons_succ, i64_w, i32_w]
        rfl
      refine pure_ (i := 5) (N := some 29) (v := ?_) (a' := ?_) #[true, true, true, true, false, true, false, false, false, false, false, false, false, false, false, false, false] rfl rfl (by kernel_rfl) (fun _ _ _ h => h) (Or.inl ⟨by rfl, ?_⟩) ?_ ?_
      rotate_left
      · intro w'
        go_simp
        with_reducible rfl
      rotate_left
      · simp only [Act.put, List.setIfInBounds_toArray, List.set_cons_zero, List.set_cons_succ, i64_w, i32_w]
        rfl
      refine pure_ (i := 6) (N := some 30) (v := ?_) (a' := ?_) #[true, true, true, true, false, true, true, false, false, false, false, false, false, false, false, false, false] rfl rfl (by kernel_rfl) (fun _ _ _ h => h) (Or.inl ⟨by rfl, ?_⟩) ?_ ?_
      rotate_left
      · intro w'
        go_simp
        with_reducible rfl
      rotate_left
      · simp only [Act.put, List.setIfInBounds_toArray, List.set_cons_zero, List.set_cons_succ, i64_w, i32_w]
        rfl
      refine pure_ (i := 7) (N := some 31) (v := ?_) (a' := ?_) #[true, true, true, true, false, true, true, true, false, false, false, false, false, false, false, false, false] rfl rfl (by kernel_rfl) (fun _ _ _ h => h) (Or.inl ⟨by rfl, ?_⟩) ?_ ?_
      rotate_left
      · intro w'
        go_simp
        with_reducible rfl
      rotate_left
      · simp only [Act.put, List.setIfInBounds_toArray, List.set_cons_zero, List.set_cons_succ, i64_w, i32_w]
        rfl
      refine take_ (i := 4) (N := some 28) (v := ?_) (a' := ?_) #[true, true, true, true, true, true, true, true, false, false, false, false, false, false, false, false, false] rfl rfl (by kernel_rfl) (fun _ _ _ h => h) (Or.inl ⟨by rfl, ?_⟩) hHeld ?_ ?_
      rotate_left
      · rintro w' ⟨s0, s1⟩
        go_simp
        with_reducible rfl
      rotate_left
      · simp only [Act.put, List.setIfInBounds_toArray, List.set_cons_zero, List.set_cons_succ, i64_w, i32_w]
        rfl
      refine take_ (i := 8) (N := some 32) (v := ?_) (a' := ?_) #[true, true, true, true, true, true, true, true, true, false, false, false, false, false, false, false, false] rfl rfl (by kernel_rfl) (fun _ _ _ h => h) (Or.inl ⟨by rfl, ?_⟩) hHeld ?_ ?_
      rotate_left
      · rintro w' ⟨s0, s1⟩
        go_simp
        with_reducible rfl
      rotate_left
      · simp only [Act.put, List.setIfInBounds_toArray, List.set_cons_zero, List.set_cons_succ, i64_w, i32_w]
        rfl
      refine pure_ (i := 9) (N := some 33) (v := ?_) (a' := ?_) #[true, true, true, true, true, true, true, true, true, true, false, false, false, false, false, false, false] rfl rfl (by kernel_rfl) (fun _ _ _ h => h) (Or.inl ⟨by rfl, ?_⟩) ?_ ?_
      rotate_left
      · intro w'
        go_simp
        with_reducible rfl
      rotate_left
      · simp only [Act.put, List.setIfInBounds_toArray, List.set_cons_zero, List.set_cons_succ, i64_w, i32_w]
        rfl
      refine pure_ (i := 10) (N := some 34) (v := ?_) (a' := ?_) #[true, true, true, true, true, true, true, true, true, true, true, false, false, false, false, false, false] rfl rfl (by kernel_rfl) (fun _ _ _ h => h) (Or.inl ⟨by rfl, ?_⟩) ?_ ?_
      rotate_left
      · intro w'
        go_simp
        with_reducible rfl
      rotate_left
      · simp only [Act.put, List.setIfInBounds_toArray, List.set_cons_zero, List.set_cons_succ, i64_w, i32_w]
        rfl
      refine pure_ (i := 11) (N := some 35) (v := ?_) (a' := ?_) #[true, true, true, true, true, true, true, true, true, true, true, true, false, false, false, false, false] rfl rfl (by kernel_rfl) (fun _ _ _ h => h) (Or.inl ⟨by rfl, ?_⟩) ?_ ?_
      rotate_left
      · intro w'
        go_simp
        with_reducible rfl
      rotate_left
      · simp only [Act.put, List.setIfInBounds_toArray, List.set_cons_zero, List.set_cons_succ, i64_w, i32_w]
        rfl
      refine pure_ (i := 12) (N := some 36) (v := ?_) (a' := ?_) #[true, true, true, true, true, true, true, true, true, true, true, true, true, false, false, false, false] rfl rfl (by kernel_rfl) (fun _ _ _ h => h) (Or.inl ⟨by rfl, ?_⟩) ?_ ?_
      rotate_left
      · intro w'
        go_simp
        with_reducible rfl
      rotate_left
      · simp only [Act.put, List.setIfInBounds_toArray, List.set_cons_zero, List.set_cons_succ, i64_w, i32_w]
        rfl
      refine take_ (i := 13) (N := some 37) (v := ?_) (a' := ?_) #[true, true, true, true, true, true, true, true, true, true, true, true, true, true, false, false, false] rfl rfl (by kernel_rfl) (fun _ _ _ h => h) (Or.inl ⟨by rfl, ?_⟩) hHeld ?_ ?_
      rotate_left
      · rintro w' ⟨s0, s1⟩
        go_simp
        with_reducible rfl
      rotate_left
      · simp only [Act.put, List.setIfInBounds_toArray, List.set_cons_zero, List.set_cons_succ, i64_w, i32_w]
        rfl
      refine one_ (i := 14) (N := some 38) #[true, true, true, true, true, true, true, true, true, true, true, true, true, true, true, false, false] rfl rfl (by kernel_rfl) (by decide) (fun K hK => ?_)
      refine value_ (w1 := ?_) (v := ?_) (by rfl) rfl ?_ ?_
      rotate_left 2
      · go_simp
        constructor
        · rfl
        · rfl
      refine hK.out _ _ ⟨pw_cell_below hbl hHeld.1, pw_cell_below hbl hHeld.2⟩ (fun hHeld => ?_)
      clear hK K
      refine norm_ (a' := ?_) ?_ ?_
      rotate_left
      · show Act.put _ (some 38) _ = _
        simp only [Act.put, List.setIfInBounds_toArray, List.set_cons_zero, List.set_cons_succ, i64_w, i32_w]
        rfl
      refine one_ (i := 15) (N := some 39) #[true, true, true, true, true, true, true, true, true, true, true, true, true, true, true, true, false] rfl rfl (by kernel_rfl) (by decide) (fun K hK => ?_)
      refine step_run_append rfl (.tmp 24) (.tmp 38) 28 rfl rfl rfl hr6 ?_
      refine hK.out _ _ ⟨z6, zk6⟩ (fun hHeld => ?_)
      clear hK K
      refine norm_ (a' := ?_) ?_ ?_
      rotate_left
      · show Act.put _ (some 39) _ = _
        simp only [Act.put, List.setIfInBounds_toArray, List.set_cons_zero, List.set_cons_succ, i64_w, i32_w]
        rfl
      refine pure_ (i := 16) (N := some 6) (v := ?_) (a' := ?_) #[true, true, true, true, true, true, true, true, true, true, true, true, true, true, true, true, true] rfl rfl (by kernel_rfl) (fun _ _ _ h => h) (Or.inl ⟨by rfl, ?_⟩) ?_ ?_
      rotate_left
      · intro w'
        go_simp
        with_reducible rfl
      rotate_left
      · simp only [Act.put, List.setIfInBounds_toArray, List.set_cons_zero, List.set_cons_succ, i64_w, i32_w]
        rfl
      refine done_ (by kernel_rfl) ?_
      clear hHeld
      replace yk := Lib.hid yk
      replace y1 := Lib.hid y1
      go_wp2_with fail
      refine hwo.out.mono ?_
      clear hwo
      rintro e w8 ⟨v8, rfl, ho8, hb8⟩
      have hR81 := hR6.out.below hb8
      have ho68 : Hid (Own w8 w.heap.size (.slice A8 l1.length c8) l1) := ho6.out.below hb8
      have hC8 : Chg w w8 (fun z => z = gq) := hC6.out.trans (Chg.of_below hb8 (fun _ => False)) (fun _ _ h => h.elim)
      replace ho8 := own_weaken ho8 (Nat.le_trans hB hsz6)
      obtain ⟨A9, c9, rfl, -⟩ := OwnP.rd ho8
      have u1 := blk_cell hR81.q 1
      have uf1 := blk_frozen hR81.q 1
      simp only [List.getElem?_toArray, List.getElem?_cons_zero, List.getElem?_cons_succ] at u1
      have hR9 := hR81.setL ho8 hM2l.out
      have u4 := blk_cell hR9.q 4
      have uf4 := blk_frozen hR9.q 4
      simp only [List.getElem?_toArray, List.getElem?_cons_zero, List.getElem?_cons_succ] at u4
      have hgj : g + (j : Int) ≤ 1152921504606846976 := by have := hlen2.out; omega
      have hS10 : Hid (RShr w (World.setCell (w8.setCell ⟨gq, 1, none⟩ (.slice A9 M2.length c9)) ⟨gq, 4, none⟩ (.int .i64 (g + j + 1))) B gq n h m g M M2 (j + 1) (.slice A9 M2.length c9) (.slice A8 l1.length c8)) := by
        refine ⟨?_, hM2e.out, (hC8.set_ (p := ⟨gq, 1, none⟩) rfl _).set_ (p := ⟨gq, 4, none⟩) rfl _, ?_⟩
        · rw [show g + ((j + 1 : Nat) : Int) = g + j + 1 from by push_cast; omega]
          exact hR9.set4 (g + j + 1)
        · rw [hx.out]
          exact own_setCell (own_setCell ho68.out (own_ne ho68.out hR81.q (by decide)) _) (own_ne (own_setCell ho68.out (own_ne ho68.out hR81.q (by decide)) _) hR9.q (by decide)) _
      replace ho8 := Lib.hid ho8
      clear hb8 hR81 hR9 hC8 e1 e2 e3 z6 zk6
      go_wp2_with fail
      go_roundw
      case rel => exact ⟨j + 1, M2, _, hl1n.out, by have := hlen2.out; omega, by have := hlen2.out; omega, hS10⟩
      case measure => rw [show lenV (.slice A8 l1.length c8) = j + 1 from hl1n.out, show lenV (.slice Av l0.length cv) = j from hl0n.out]; have := hlen2.out; omega
    · have hd : ¬ ((n : Int) < (Mj.length : Int)) := by omega
      have e1 : Hid (kvGone n M = l0) := by
        show _ = _
        rw [hl0]
        by_cases h3 : M.length ≤ n
        · rw [kvGone_all h3, kvGone_all (by omega)]
        · rw [show M.length - j = n from by omega]
      have e2 : Hid (M.take n = M.take (M.length - j)) := by
        show _ = _
        by_cases h3 : M.length ≤ n
        · rw [List.take_of_length_le h3, List.take_of_length_le (by omega)]
        · rw [show M.length - j = n from by omega]
      have e3 : Hid (j = M.length - n) := by show _ = _; omega
      replace hl0 := Lib.hid hl0
      replace hlen := Lib.hid hlen
      go_wp2_with fail
      go_ret2
      refine ⟨_, rfl, ?_, ?_⟩
      · rw [e1.out]
        exact hol.out
      · first | refine ⟨.slice A Mj.length c, ?_, hS.out.ch⟩ | refine ⟨⟨.slice A Mj.length c, ?_⟩, hS.out.ch⟩
        rw [e2.out, ← e3.out, ← hS.out.eq]
        exact hS.out.r
end Go.Proofs.Ytecgbhiebaiokaa.G
