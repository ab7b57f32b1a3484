/- The contract of does. -/
import Derived.Test.YtecgbhiebaiokaaK6
namespace Go.Proofs.Ytecgbhiebaiokaa.G
open Go.RowKit Go.Proofs.YtecgbhiebaiokaaW.PrintWords Go.Proofs.YtecgbhiebaiokaaW.PrintLast Go.Proofs.YtecgbhiebaiokaaW.PrintMore
set_option linter.unusedSimpArgs false
set_option linter.unusedVariables false
/-- the counters are small yet -/
structure Cb (c : Nat) (h m g : Int) : Prop where
  h : h ≤ c
  m : m ≤ c
  g : g ≤ 4096 * c
theorem Cb.up {c : Nat} {h m g h' m' g' : Int} (hc : Cb c h m g) (h1 : h' ≤ h + 1) (h2 : m' ≤ m + 1) (h3 : g' ≤ g + 4096) : Cb (c + 1) h' m' g' := by
  obtain ⟨a, b, d⟩ := hc
  exact ⟨by omega, by omega, by omega⟩
theorem Cb.get {c : Nat} {h m g : Int} (hc : Cb c h m g) (o : Option Int) : Cb (c + 1) (h + hitI o) (m + missI o) g := hc.up (by have := hitI_le o; omega) (by have := missI_le o; omega) (by omega)
theorem Cb.put {c : Nat} {h m g : Int} (hc : Cb c h m g) (o : Option Int) : Cb (c + 1) h m (g + hitI o) := hc.up (by omega) (by omega) (by have := hitI_le o; omega)
theorem Cb.look {c : Nat} {h m g : Int} (hc : Cb c h m g) : Cb (c + 1) h m g := hc.up (by omega) (by omega) (by omega)
theorem Cb.grow {c : Nat} {h m g : Int} (hc : Cb c h m g) {a : Nat} (hb : a ≤ 4096) {n : Nat} : Cb (c + 1) h m (g + ((a - n : Nat) : Int)) := hc.up (by omega) (by omega) (by omega)
set_option maxRecDepth 100000 in
set_option maxHeartbeats 8000000 in
theorem does_calls (w0 W0 : World) (gm gb gq n : Nat) (h m g : Int) (L : List (Ent Int)) (v : Value) (c : Nat) (p : ActL) (A1 : Option Addr) (c1 : Nat) (hBo : Both w0 W0 gm gb gq n h m g L v) (hco : Cb c h m g) (hc : c ≤ 100000000000000) (hoko : ActOk p) (hPo : KeysRd w0 A1 p.keys) :
    Calls Try.prog 18 #[.pointer (some ⟨gm, 0, none⟩), .pointer (some ⟨gq, 0, none⟩), .agg #[.int .i64 p.kind, .int .i64 p.k, .int .i64 p.v, .slice A1 p.keys.length c1]] W0 fun e w' => e = .returned (.bool true) ∧ ∃ n' h' m' g' L' v', Both w0 w' gm gb gq n' h' m' g' L' v' ∧ Cb (c + 1) h' m' g' := by
  have hB := Lib.hid hBo
  have hcb := Lib.hid hco
  have hok := Lib.hid hoko
  have hP := Lib.hid hPo
  have hh0 := hBo.me.h0
  have hm0 := hBo.me.i0
  have hg0 := hBo.me.g0
  have hch := hco.h
  have hcm := hco.m
  have hcg := hco.g
  clear hBo hco hoko hPo
  go_enter Try.func18, Try.ntmps18
  go_wp2_with fail
  · have hac := heap_alloc_new W0 (.cells #[.int .i64 p.kind, .int .i64 p.k, .int .i64 p.v, .slice A1 p.keys.length c1] 30)
    have hfm0 : ∀ q, FM gm gb L q → q ≠ W0.heap.size := fun q hq he => by have := (hB.out.me.fm q hq).2; omega
    have hgaq0 : W0.heap.size ≠ gq := fun he => by have := blk_lt hB.out.r.q; omega
    replace hB := Lib.hid (hB.out.thin (below_alloc (Below.refl _ W0) (.cells #[.int .i64 p.kind, .int .i64 p.k, .int .i64 p.v, .slice A1 p.keys.length c1] 30)))
    obtain ⟨W, hW⟩ : ∃ W, W = W0.alloc (.cells #[.int .i64 p.kind, .int .i64 p.k, .int .i64 p.v, .slice A1 p.keys.length c1] 30) := ⟨_, rfl⟩
    obtain ⟨ga, hga⟩ : ∃ ga, ga = W0.heap.size := ⟨_, rfl⟩
    rw [← hga] at hac hfm0 hgaq0
    rw [← hW] at hB hac ⊢
    try rw [← hga]
    have hfm := hfm0
    have hgaq := hgaq0
    clear hW hga hfm0 hgaq0
    have hg := Get_kv W w0.heap.size gm gb n h m g L p.k hB.out.me hok.out.k.ok (by omega) (by omega)
    have hU := Lib.hid hB.out.uniq
    obtain ⟨z, hz⟩ : ∃ z, z = (kvLook p.k (kv L)).getD 0 := ⟨_, rfl⟩
    obtain ⟨b, hb⟩ : ∃ b, b = (kvLook p.k (kv L)).isSome := ⟨_, rfl⟩
    rw [← hz, ← hb] at hg
    refine hg.mono ?_
    clear hg
    rintro e w4 ⟨rfl, L', hs⟩
    have q1 := blk_cell (hs.ch.blk hac (fun hf => hfm _ hf rfl)) 1
    simp only [List.getElem?_toArray, List.getElem?_cons_zero, List.getElem?_cons_succ] at q1
    have hg2 := RGet_kv w4 w0.heap.size gq n h m g v (kv L) p.k (hB.out.mid hs) hU.out hh0 (by omega) hm0 (by omega)
    rw [← hz, ← hb] at hg2
    have t1 : (z == z) = true := by simp
    have t2 : (b == b) = true := by simp
    replace hs := Lib.hid hs
    replace hz := Lib.hid hz
    replace hb := Lib.hid hb
    replace hg2 := Lib.hid hg2
    go_wp2_with fail
    refine hg2.out.mono ?_
    clear hg2
    rintro e w5 ⟨rfl, v5, r5, hc5⟩
    have hB5 := Lib.hid (hB.out.step hs.out r5 hc5)
    clear r5 hc5 hs hB hac
    go_wp2_with fail
    go_ret
    exact ⟨rfl, _, _, _, _, _, _, hB5.out, hcb.out.get _⟩
  · have hac := heap_alloc_new W0 (.cells #[.int .i64 p.kind, .int .i64 p.k, .int .i64 p.v, .slice A1 p.keys.length c1] 30)
    have hfm0 : ∀ q, FM gm gb L q → q ≠ W0.heap.size := fun q hq he => by have := (hB.out.me.fm q hq).2; omega
    have hgaq0 : W0.heap.size ≠ gq := fun he => by have := blk_lt hB.out.r.q; omega
    replace hB := Lib.hid (hB.out.thin (below_alloc (Below.refl _ W0) (.cells #[.int .i64 p.kind, .int .i64 p.k, .int .i64 p.v, .slice A1 p.keys.length c1] 30)))
    obtain ⟨W, hW⟩ : ∃ W, W = W0.alloc (.cells #[.int .i64 p.kind, .int .i64 p.k, .int .i64 p.v, .slice A1 p.keys.length c1] 30) := ⟨_, rfl⟩
    obtain ⟨ga, hga⟩ : ∃ ga, ga = W0.heap.size := ⟨_, rfl⟩
    rw [← hga] at hac hfm0 hgaq0
    rw [← hW] at hB hac ⊢
    try rw [← hga]
    have hfm := hfm0
    have hgaq := hgaq0
    clear hW hga hfm0 hgaq0
    have hg := Look_kv W w0.heap.size gm gb n h m g L p.k hB.out.me hok.out.k.ok
    have hg2 := RLook_kv W w0.heap.size gq n h m g v (kv L) p.k hB.out.r hB.out.uniq
    obtain ⟨z, hz⟩ : ∃ z, z = (kvLook p.k (kv L)).getD 0 := ⟨_, rfl⟩
    obtain ⟨b, hb⟩ : ∃ b, b = (kvLook p.k (kv L)).isSome := ⟨_, rfl⟩
    rw [← hz, ← hb] at hg hg2
    refine hg.mono ?_
    clear hg
    rintro e w4 ⟨rfl, rfl⟩
    have q1 := blk_cell hac 1
    simp only [List.getElem?_toArray, List.getElem?_cons_zero, List.getElem?_cons_succ] at q1
    have t1 : (z == z) = true := by simp
    have t2 : (b == b) = true := by simp
    replace hz := Lib.hid hz
    replace hb := Lib.hid hb
    replace hg2 := Lib.hid hg2
    go_wp2_with fail
    refine hg2.out.mono ?_
    clear hg2
    rintro e w5 ⟨rfl, rfl⟩
    clear hac
    go_wp2_with fail
    go_ret
    exact ⟨rfl, _, _, _, _, _, _, hB.out, hcb.out.look⟩
  · have hac := heap_alloc_new W0 (.cells #[.int .i64 p.kind, .int .i64 p.k, .int .i64 p.v, .slice A1 p.keys.length c1] 30)
    have hfm0 : ∀ q, FM gm gb L q → q ≠ W0.heap.size := fun q hq he => by have := (hB.out.me.fm q hq).2; omega
    have hgaq0 : W0.heap.size ≠ gq := fun he => by have := blk_lt hB.out.r.q; omega
    replace hB := Lib.hid (hB.out.thin (below_alloc (Below.refl _ W0) (.cells #[.int .i64 p.kind, .int .i64 p.k, .int .i64 p.v, .slice A1 p.keys.length c1] 30)))
    obtain ⟨W, hW⟩ : ∃ W, W = W0.alloc (.cells #[.int .i64 p.kind, .int .i64 p.k, .int .i64 p.v, .slice A1 p.keys.length c1] 30) := ⟨_, rfl⟩
    obtain ⟨ga, hga⟩ : ∃ ga, ga = W0.heap.size := ⟨_, rfl⟩
    rw [← hga] at hac hfm0 hgaq0
    rw [← hW] at hB hac ⊢
    try rw [← hga]
    have hfm := hfm0
    have hgaq := hgaq0
    clear hW hga hfm0 hgaq0
    have hg := Put_kv W w0.heap.size gm gb n h m g L p.k p.v n rfl hB.out.bel.size hB.out.me hok.out.k.ok (by omega)
    have hU := Lib.hid hB.out.uniq
    obtain ⟨z, hz⟩ : ∃ z, z = (kvOut n p.k (kv L)).getD 0 := ⟨_, rfl⟩
    obtain ⟨b, hb⟩ : ∃ b, b = (kvOut n p.k (kv L)).isSome := ⟨_, rfl⟩
    rw [← hz, ← hb] at hg
    refine hg.mono ?_
    clear hg
    rintro e w4 ⟨rfl, L', hs⟩
    have q1 := blk_cell (hs.ch.blk hac (fun hf => hfm _ hf rfl)) 1
    have q2 := blk_cell (hs.ch.blk hac (fun hf => hfm _ hf rfl)) 2
    simp only [List.getElem?_toArray, List.getElem?_cons_zero, List.getElem?_cons_succ] at q1 q2
    have hg2 := RPut_kv w4 w0.heap.size gq n h m g v (kv L) p.k p.v n rfl (by have := hB.out.me.m1; omega) (hB.out.mid hs) hU.out (by rw [kv_len]; have := hB.out.me.ln; omega) (by have := hB.out.me.m2; omega) hg0 (by omega)
    rw [← hz, ← hb] at hg2
    have t1 : (z == z) = true := by simp
    have t2 : (b == b) = true := by simp
    replace hs := Lib.hid hs
    replace hz := Lib.hid hz
    replace hb := Lib.hid hb
    replace hg2 := Lib.hid hg2
    go_wp2_with fail
    refine hg2.out.mono ?_
    clear hg2
    rintro e w5 ⟨rfl, v5, r5, hc5⟩
    have hB5 := Lib.hid (hB.out.step hs.out r5 hc5)
    clear r5 hc5 hs hB hac
    go_wp2_with fail
    go_ret
    exact ⟨rfl, _, _, _, _, _, _, hB5.out, hcb.out.put _⟩
  · have hac := heap_alloc_new W0 (.cells #[.int .i64 p.kind, .int .i64 p.k, .int .i64 p.v, .slice A1 p.keys.length c1] 30)
    have hfm0 : ∀ q, FM gm gb L q → q ≠ W0.heap.size := fun q hq he => by have := (hB.out.me.fm q hq).2; omega
    have hgaq0 : W0.heap.size ≠ gq := fun he => by have := blk_lt hB.out.r.q; omega
    replace hB := Lib.hid (hB.out.thin (below_alloc (Below.refl _ W0) (.cells #[.int .i64 p.kind, .int .i64 p.k, .int .i64 p.v, .slice A1 p.keys.length c1] 30)))
    obtain ⟨W, hW⟩ : ∃ W, W = W0.alloc (.cells #[.int .i64 p.kind, .int .i64 p.k, .int .i64 p.v, .slice A1 p.keys.length c1] 30) := ⟨_, rfl⟩
    obtain ⟨ga, hga⟩ : ∃ ga, ga = W0.heap.size := ⟨_, rfl⟩
    rw [← hga] at hac hfm0 hgaq0
    rw [← hW] at hB hac ⊢
    try rw [← hga]
    have hfm := hfm0
    have hgaq := hgaq0
    clear hW hga hfm0 hgaq0
    have x3 : W.cell? ⟨ga, 3, none⟩ = some (.slice A1 p.keys.length c1) := blk_cell hac 3
    have hBd : Hid (Both w0 W.drew gm gb gq n h m g L v) := hB.out.drewN 1
    have hdr := Lib.hid (Drop_kv W.drew w0.heap.size gm gb n h m g L A1 c1 p.keys hBd.out.me hok.out.keys hP.out.2.1 (fun W2 hc => hP.out.below (hBd.out.bel.trans (hc.below hBd.out.bel.size (fun q hq => (hBd.out.me.fm q hq).1)))))
    obtain ⟨z, hz⟩ : ∃ z : Int, z = (kv L).length - (kvDrops p.keys (kv L)).length := ⟨_, rfl⟩
    rw [← hz] at hdr
    replace hz := Lib.hid hz
    have t1 : (z == z) = true := by simp
    refine start_ (n := 10) (S := fun w' => w'.cell? ⟨ga, 3, none⟩ = some (.slice A1 p.keys.length c1)) (ds := []) #[false, false, false, false, false, false, false, false, false, false] (by kernel_rfl) rfl rfl (x3) (fun hHeld => ?_)
    refine pure_ (i := 0) (N := some 106) (v := ?_) (a' := ?_) #[true, false, false, false, false, false, false, false, false, false] rfl rfl (by kernel_rfl) (fun _ _ _ h => h) (Or.inl ⟨by rfl, ?_⟩) ?_ ?_
    rotate_left
    · intro w'
      go_simp
      with_reducible rfl
    rotate_left
    · simp only [Act.put, List.setIfInBounds_toArray, List.set_cons_zero, List.set_cons_succ, i64_w, i32_w]
      rfl
    refine pure_ (i := 1) (N := some 107) (v := ?_) (a' := ?_) #[true, true, false, false, false, false, false, false, false, false] rfl rfl (by kernel_rfl) (fun _ _ _ h => h) (Or.inl ⟨by rfl, ?_⟩) ?_ ?_
    rotate_left
    · intro w'
      go_simp
      with_reducible rfl
    rotate_left
    · simp only [Act.put, List.setIfInBounds_toArray, List.set_cons_zero, List.set_cons_succ, i64_w, i32_w]
      rfl
    refine pure_ (i := 4) (N := some 110) (v := ?_) (a' := ?_) #[true, true, false, false, true, false, false, false, false, false] rfl rfl (by kernel_rfl) (fun _ _ _ h => h) (Or.inl ⟨by rfl, ?_⟩) ?_ ?_
    rotate_left
    · intro w'
      go_simp
      with_reducible rfl
    rotate_left
    · simp only [Act.put, List.setIfInBounds_toArray, List.set_cons_zero, List.set_cons_succ, i64_w, i32_w]
      rfl
    refine pure_ (i := 5) (N := some 111) (v := ?_) (a' := ?_) #[true, true, false, false, true, true, false, false, false, false] rfl rfl (by kernel_rfl) (fun _ _ _ h => h) (Or.inl ⟨by rfl, ?_⟩) ?_ ?_
    rotate_left
    · intro w'
      go_simp
      with_reducible rfl
    rotate_left
    · simp only [Act.put, List.setIfInBounds_toArray, List.set_cons_zero, List.set_cons_succ, i64_w, i32_w]
      rfl
    refine take_ (i := 2) (N := some 108) (v := ?_) (a' := ?_) #[true, true, true, false, true, true, false, false, false, false] rfl rfl (by kernel_rfl) (fun _ _ _ h => h) (Or.inl ⟨by rfl, ?_⟩) hHeld ?_ ?_
    rotate_left
    · intro w' s0
      go_simp
      with_reducible rfl
    rotate_left
    · simp only [Act.put, List.setIfInBounds_toArray, List.set_cons_zero, List.set_cons_succ, i64_w, i32_w]
      rfl
    refine take_ (i := 6) (N := some 112) (v := ?_) (a' := ?_) #[true, true, true, false, true, true, true, false, false, false] rfl rfl (by kernel_rfl) (fun _ _ _ h => h) (Or.inl ⟨by rfl, ?_⟩) hHeld ?_ ?_
    rotate_left
    · intro w' s0
      go_simp
      with_reducible rfl
    rotate_left
    · simp only [Act.put, List.setIfInBounds_toArray, List.set_cons_zero, List.set_cons_succ, i64_w, i32_w]
      rfl
    refine one_ (i := 3) (N := some 109) #[true, true, true, true, true, true, true, false, false, false] rfl rfl (by kernel_rfl) (by decide) (fun K hK => ?_)
    refine goes_ Try.func14 (by kernel_rfl) rfl #[.pointer (some ⟨gm, 0, none⟩), .slice A1 p.keys.length c1] (by rfl) rfl rfl (by simp only [List.map_toArray, List.map_cons, List.map_nil]; rfl) ?_
    with_reducible refine (hdr.out).mono ?_
    rintro e w4 ⟨rfl, L', hs⟩
    refine ⟨_, rfl, ?_⟩
    have hR4 := Lib.hid (hBd.out.mid hs)
    have hU := Lib.hid hBd.out.uniq
    have hdr2 := Lib.hid (RDrop_calls w4 w0.heap.size gq n h m g v (kv L) hR4.out hU.out A1 c1 p.keys hP.out.2.1 (fun W2 hc => hP.out.below ((Chg.old hBd.out.me hs.ch hBd.out.bel hBd.out.bel.size).trans (hc.below (Nat.le_trans hBd.out.bel.size hs.ch.size) (fun q hq => by rw [hq]; exact hBd.out.r.b)))))
    rw [← hz.out] at hdr2
    have hs1 := Lib.hid hs
    have x34 : w4.cell? ⟨ga, 3, none⟩ = some (.slice A1 p.keys.length c1) := blk_cell (hs.ch.blk (w := W.drew) hac (fun hf => hfm _ hf rfl)) 3
    refine hK.out _ _ (x34) (fun hHeld => ?_)
    clear hK K
    refine norm_ (a' := ?_) ?_ ?_
    rotate_left
    · show Act.put _ (some 109) _ = _
      simp only [Act.put, List.setIfInBounds_toArray, List.set_cons_zero, List.set_cons_succ, i64_w, i32_w]
      rfl
    refine one_ (i := 7) (N := some 113) #[true, true, true, true, true, true, true, true, false, false] rfl rfl (by kernel_rfl) (by decide) (fun K hK => ?_)
    refine goes_ Try.func21 (by kernel_rfl) rfl #[.pointer (some ⟨gq, 0, none⟩), .slice A1 p.keys.length c1] (by rfl) rfl rfl (by simp only [List.map_toArray, List.map_cons, List.map_nil]; rfl) ?_
    with_reducible refine (hdr2.out).mono ?_
    rintro e w5 ⟨rfl, v5, r5, hc5⟩
    refine ⟨_, rfl, ?_⟩
    have hB5 := Lib.hid (hBd.out.step hs1.out r5 hc5)
    have x35 : w5.cell? ⟨ga, 3, none⟩ = some (.slice A1 p.keys.length c1) := blk_cell (hc5.blk (hs1.out.ch.blk (w := W.drew) hac (fun hf => hfm _ hf rfl)) (fun e => hgaq e)) 3
    refine hK.out _ _ (x35) (fun hHeld => ?_)
    clear hK K
    refine norm_ (a' := ?_) ?_ ?_
    rotate_left
    · show Act.put _ (some 113) _ = _
      simp only [Act.put, List.setIfInBounds_toArray, List.set_cons_zero, List.set_cons_succ, i64_w, i32_w]
      rfl
    refine pure_ (i := 8) (N := some 114) (v := ?_) (a' := ?_) #[true, true, true, true, true, true, true, true, true, false] rfl rfl (by kernel_rfl) (fun _ _ _ h => h) (Or.inl ⟨by rfl, ?_⟩) ?_ ?_
    rotate_left
    · intro w'
      go_simp
      with_reducible rfl
    rotate_left
    · simp only [Act.put, List.setIfInBounds_toArray, List.set_cons_zero, List.set_cons_succ, i64_w, i32_w]
      rfl
    refine pure_ (i := 9) (N := some 6) (v := ?_) (a' := ?_) #[true, true, true, true, true, true, true, true, true, true] rfl rfl (by kernel_rfl) (fun _ _ _ h => h) (Or.inl ⟨by rfl, ?_⟩) ?_ ?_
    rotate_left
    · intro w'
      go_simp
      with_reducible rfl
    rotate_left
    · simp only [Act.put, List.setIfInBounds_toArray, List.set_cons_zero, List.set_cons_succ, i64_w, i32_w]
      rfl
    refine done_ (by kernel_rfl) ?_
    clear hHeld
    go_wp2_with fail
    go_ret
    exact ⟨by simp, _, _, _, _, _, _, hB5.out, hcb.out.look⟩
  · have hac := heap_alloc_new W0 (.cells #[.int .i64 p.kind, .int .i64 p.k, .int .i64 p.v, .slice A1 p.keys.length c1] 30)
    have hfm0 : ∀ q, FM gm gb L q → q ≠ W0.heap.size := fun q hq he => by have := (hB.out.me.fm q hq).2; omega
    have hgaq0 : W0.heap.size ≠ gq := fun he => by have := blk_lt hB.out.r.q; omega
    replace hB := Lib.hid (hB.out.thin (below_alloc (Below.refl _ W0) (.cells #[.int .i64 p.kind, .int .i64 p.k, .int .i64 p.v, .slice A1 p.keys.length c1] 30)))
    obtain ⟨W, hW⟩ : ∃ W, W = W0.alloc (.cells #[.int .i64 p.kind, .int .i64 p.k, .int .i64 p.v, .slice A1 p.keys.length c1] 30) := ⟨_, rfl⟩
    obtain ⟨ga, hga⟩ : ∃ ga, ga = W0.heap.size := ⟨_, rfl⟩
    rw [← hga] at hac hfm0 hgaq0
    rw [← hW] at hB hac ⊢
    try rw [← hga]
    have hfm := hfm0
    have hgaq := hgaq0
    clear hW hga hfm0 hgaq0
    by_cases hbad : p.v < 1 ∨ 4096 < p.v
    · refine (Resize_bad W w0.heap.size gm gb n h m g L p.v hB.out.me hbad).mono ?_
      rintro e w4 ⟨rfl, rfl⟩
      have q2 := blk_cell hac 2
      simp only [List.getElem?_toArray, List.getElem?_cons_zero, List.getElem?_cons_succ] at q2
      have hbad2 := Lib.hid hbad
      clear hbad
      go_wp2_with fail
      refine (RResize_bad W gq p.v hbad2.out).mono ?_
      rintro e w5 ⟨rfl, rfl⟩
      clear hac
      go_wp2_with (first | (go_at_call 23; go_must (refine (Same_calls W none none 0 0 [] (ReadsInt.nil _ _) (ReadsInt.nil _ _)).mono ?_); rintro e w6 ⟨rfl, nn, rfl⟩))
      go_ret
      exact ⟨rfl, _, _, _, _, _, _, hB.out.drewN nn, hcb.out.look⟩
    · obtain ⟨n2, hn2⟩ : ∃ n2 : Nat, p.v = n2 := ⟨p.v.toNat, by omega⟩
      have hcb0 := hcb.out.g
      have hrz := Resize_kv W w0.heap.size gm gb n h m g L n2 hB.out.me hB.out.bel.size (by omega) (by omega) (by omega)
      rw [hn2]
      refine hrz.mono ?_
      clear hrz
      rintro e w4 ⟨v4, rfl, ho4, L', hs⟩
      have q2 := blk_cell (hs.ch.blk hac (fun hf => hfm _ hf rfl)) 2
      simp only [List.getElem?_toArray, List.getElem?_cons_zero, List.getElem?_cons_succ] at q2
      rw [hn2] at q2
      have hrz2 := RResize_calls w4 w0.heap.size gq n h m g v (kv L) n2 (hB.out.mid hs) (Nat.le_trans hB.out.bel.size hs.ch.size) (by omega) (by omega) hg0 (by omega)
      obtain ⟨l0, hl0⟩ : ∃ l0, l0 = kvGone n2 (kv L) := ⟨_, rfl⟩
      rw [← hl0] at ho4 hrz2
      obtain ⟨A4, c4, rfl, -⟩ := own_rd ho4
      have hn2' := Lib.hid hn2
      have hl4 : L.length ≤ 4096 := by have := hB.out.me.ln; have := hB.out.me.m2; omega
      replace hs := Lib.hid hs
      replace ho4 := Lib.hid ho4
      replace hl0 := Lib.hid hl0
      replace hrz2 := Lib.hid hrz2
      clear hn2 hbad
      go_wp2_with fail
      refine hrz2.out.mono ?_
      clear hrz2
      rintro e w5 ⟨v5, rfl, ho5, vq, r5, hc5⟩
      obtain ⟨A5, c5, rfl, -⟩ := own_rd ho5
      have hB5 : Hid (Both w0 w5 gm gb gq n2 h m (g + (L.length - n2 : Nat)) L' vq) := hB.out.step hs.out (by rw [kv_len] at r5; exact r5) hc5
      have ho45 : Own w5 W.heap.size (.slice A4 l0.length c4) l0 := ho4.out.chg hc5 (fun k hk e => (ho4.out.apartR (hB.out.mid hs.out)) (by rw [hk, e]))
      have hk4 : KeysRd w5 A4 l0 := by
        obtain ⟨A', c', he, hr⟩ := own_rd ho45
        injection he with he1 he2 he3
        subst he1
        exact hr
      have hk5 : KeysRd w5 A5 l0 := by
        obtain ⟨A', c', he, hr⟩ := own_rd ho5
        injection he with he1 he2 he3
        subst he1
        exact hr
      replace hk4 := Lib.hid hk4
      replace hk5 := Lib.hid hk5
      clear ho45 ho5 r5 hc5 ho4 hs hac
      go_wp2_with (first | (go_at_call 23; go_must (refine (Same_calls w5 A4 A5 c4 c5 l0 hk4.out hk5.out).mono ?_); rintro e w6 ⟨rfl, nn, rfl⟩))
      go_ret
      exact ⟨rfl, _, _, _, _, _, _, hB5.out.drewN nn, hcb.out.grow hl4⟩
  · replace hB := Lib.hid (hB.out.thin (below_alloc (Below.refl _ W0) (.cells #[.int .i64 p.kind, .int .i64 p.k, .int .i64 p.v, .slice A1 p.keys.length c1] 30)))
    go_ret
    exact ⟨rfl, _, _, _, _, _, _, hB.out, hcb.out.look⟩
end Go.Proofs.Ytecgbhiebaiokaa.G
