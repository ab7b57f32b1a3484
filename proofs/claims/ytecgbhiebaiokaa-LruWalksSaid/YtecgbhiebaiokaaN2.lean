/- LruWalksSaid is proved: the law LruWalks returns true whatever the input, which reads as before. No conditions. Several texts in one. -/
import Derived.Test.YtecgbhiebaiokaaK7
import Derived.Deep.LoopGhost
import Derived.RangeFuncNested
import Derived.RangeFuncBound
import Derived.RangeFuncCalls
import Derived.RangeFuncLeaves
import Derived.Shelf.Abstract
import Derived.Shelf.RegionOpen
import Derived.WalkKit
import Derived.OwnWalkIn
import Derived.TacticsInMore
import Derived.LoopNIn
import Derived.LoopIn
import Derived.RangeFuncWrites
import Derived.Sort.BigQuietIn
import Derived.Test.YtecgbhiebaiokaaRows
import Derived.Laws.EntriesVeiled
/- The contract of All. -/
namespace Go.Proofs.Ytecgbhiebaiokaa.G
open Go.RowKit Go.Proofs.YtecgbhiebaiokaaW.PrintWords Go.Proofs.YtecgbhiebaiokaaW.PrintLast Go.Proofs.YtecgbhiebaiokaaW.PrintMore
set_option linter.unusedSimpArgs false
set_option linter.unusedVariables false
/-- a list in a box of its own, one longer -/
theorem collect {W : World} {B gk : Nat} {vk : Value} {xs : List Int} (y : Int) (hk : W.heap[gk]? = some (.cells #[vk] 28 (0, 0))) (ho : Own W B vk xs) (hB : B ≤ W.heap.size) (hl : xs.length + 1 ≤ 10000000000000) :
    ∃ v1 w6, (Builtin.append_ #[28, 28] 28 #[vk, .slice (some ⟨W.heap.size, 0, none⟩) 1 1]).run Try.prog (World.drew (World.alloc W (.cells #[.int .i64 y] 3))) = .ok v1 w6 ∧
      w6.heap[gk]? = some (.cells #[vk] 28 (0, 0)) ∧ (w6.setCell ⟨gk, 0, none⟩ v1).heap[gk]? = some (.cells #[v1] 28 (0, 0)) ∧ Own (w6.setCell ⟨gk, 0, none⟩ v1) B v1 (xs ++ [y]) ∧
      Chg W w6 (fun q => vk.ownBlock = some q) ∧ Chg W (w6.setCell ⟨gk, 0, none⟩ v1) (fun q => q = gk ∨ vk.ownBlock = some q) ∧ (∃ A c, v1 = .slice A (xs ++ [y]).length c) ∧ (v1.ownBlock = vk.ownBlock ∨ ∃ b, v1.ownBlock = some b ∧ W.heap.size ≤ b) := by
  obtain ⟨i0, hi, hzz⟩ := Option.map_eq_some_iff.1 info3
  simp only [Prod.mk.injEq] at hzz
  obtain ⟨hz0, hz1, hz2⟩ := hzz
  have HO2 : (World.alloc W.drew (.cells #[.int .i64 y] 3)).ownsRow B 3 1 vk xs.length (nums .i64 xs) := World.ownsRow.alloc (w := W.drew) ho _
  obtain ⟨v1, w1, hr, hown, hg, -, hat⟩ := run_append_own_at (P := Try.prog) (World.alloc W.drew (.cells #[.int .i64 y] 3)) B 28 28 3 i0 (.int .i64 0) 1 8 Try.underlying28 hi hz0 hz1 hz2 rfl (by omega) vk xs.length (nums .i64 xs) HO2 ⟨W.heap.size, 0, none⟩ 1 1 [.int .i64 y] rfl
    (World.news_of_block (cs := #[.int .i64 y]) (t := 3) (fr := (0, 0)) (heap_alloc_new W.drew _)) (by simp [Value.oneCell']) (by simp only [maxLen]; omega) (by omega) (by simp; omega)
  have hg0 : W.grownBy (World.alloc W.drew (.cells #[.int .i64 y] 3)) vk.ownBlock := ⟨rfl, rfl, rfl, by simp, fun k hk _ => heap_alloc_old W.drew _ hk⟩
  have hg2 : W.grownBy w1 vk.ownBlock := World.grownBy.trans hg0 hg
  have hk1 := blk_grown hk hg2 (own_ne ho hk (by decide))
  have hown1 : Own w1 B v1 (xs ++ [y]) := by simpa [Own, nums] using hown
  have hc1 : Chg W w1 (fun q => vk.ownBlock = some q) := (Chg.of_grown hg2).mono (fun q _ hq => hq.symm)
  refine ⟨v1, w1, hr, hk1, set_row hk1 0 v1 _ rfl, own_setCell hown1 (own_ne hown1 hk1 (by decide)) _, hc1, ?_, ?_, ?_⟩
  · exact (hc1.mono (fun q _ hq => .inr hq)).set_ (p := ⟨gk, 0, none⟩) (.inl rfl) _
  · obtain ⟨A, c, h, -⟩ := own_rd hown1
    exact ⟨A, c, h⟩
  · rcases hat with h | h
    · exact .inl h
    · exact .inr ⟨_, h, by simp⟩
def keysOf (L : List (Ent Int)) : List Int := L.map (·.k)
def valsOf (L : List (Ent Int)) : List Int := L.map (·.v)
/-- what All has gathered -/
structure Gath (w wr : World) (gk gv : Nat) (vk vv : Value) (xk xv : List Int) : Prop where
  bk : wr.heap[gk]? = some (.cells #[vk] 28 (0, 0))
  bv : wr.heap[gv]? = some (.cells #[vv] 28 (0, 0))
  ok : Own wr w.heap.size vk xk
  ov : Own wr w.heap.size vv xv
  ne : NeRow vk vv
  bel : Below w.heap.size w wr
  gk0 : w.heap.size ≤ gk
  gv0 : w.heap.size ≤ gv
  gne : gk ≠ gv
theorem Gath.addK {w wr w2 : World} {gk gv : Nat} {vk vv v1 : Value} {xk xv xs : List Int} (s : Gath w wr gk gv vk vv xk xv) (h1 : w2.heap[gk]? = some (.cells #[v1] 28 (0, 0))) (h2 : Own w2 w.heap.size v1 xs) (hc : Chg wr w2 (fun q => q = gk ∨ vk.ownBlock = some q)) (hat : v1.ownBlock = vk.ownBlock ∨ ∃ b, v1.ownBlock = some b ∧ wr.heap.size ≤ b) : Gath w w2 gk gv v1 vv xs xv :=
  ⟨h1, hc.blk s.bv (fun h => by
    rcases h with h | h
    · exact s.gne h.symm
    · exact own_ne s.ok s.bv (by decide) h.symm), h2, s.ov.chg hc (fun k hk h => by
    rcases h with h | h
    · exact own_ne s.ov s.bk (by decide) (by rw [hk, h])
    · exact s.ne k h hk), ne_append s.ne hat s.ov, s.bel.trans (hc.below s.bel.size (fun q hq => by
    rcases hq with rfl | hq
    · exact s.gk0
    · exact own_base s.ok q hq)), s.gk0, s.gv0, s.gne⟩
theorem Gath.addV {w wr w2 : World} {gk gv : Nat} {vk vv v1 : Value} {xk xv xs : List Int} (s : Gath w wr gk gv vk vv xk xv) (h1 : w2.heap[gv]? = some (.cells #[v1] 28 (0, 0))) (h2 : Own w2 w.heap.size v1 xs) (hc : Chg wr w2 (fun q => q = gv ∨ vv.ownBlock = some q)) (hat : v1.ownBlock = vv.ownBlock ∨ ∃ b, v1.ownBlock = some b ∧ wr.heap.size ≤ b) : Gath w w2 gk gv vk v1 xk xs :=
  ⟨hc.blk s.bk (fun h => by
    rcases h with h | h
    · exact s.gne h
    · exact own_ne s.ov s.bk (by decide) h.symm), h1, s.ok.chg hc (fun k hk h => by
    rcases h with h | h
    · exact own_ne s.ok s.bv (by decide) (by rw [hk, h])
    · exact s.ne k hk h), h2, ne_append' s.ne hat s.ok, s.bel.trans (hc.below s.bel.size (fun q hq => by
    rcases hq with rfl | hq
    · exact s.gv0
    · exact own_base s.ov q hq)), s.gk0, s.gv0, s.gne⟩
set_option maxRecDepth 100000 in
set_option maxHeartbeats 8000000 in
theorem All_I (w : World) (B gm gb : Nat) (most h m g : Int) (L : List (Ent Int)) (hM : Memo ktI w B gm gb most h m g L) :
    Calls Try.prog 19 #[.pointer (some ⟨gm, 0, none⟩)] w fun e w' => ∃ gk gv vk vv, e = .returned (.func (.func 35) #[] #[.pointer (some ⟨gk, 0, none⟩), .pointer (some ⟨gv, 0, none⟩)]) ∧ Gath w w' gk gv vk vv (keysOf L) (valsOf L) := by
  have hl4 : L.length ≤ 4096 := by have := hM.ln; have := hM.m2; omega
  have HM := Lib.hid hM
  clear hM
  obtain ⟨w0, hw0⟩ : ∃ w0, w0 = (w.alloc (.cells #[.slice none 0 0] 28)).alloc (.cells #[.slice none 0 0] 28) := ⟨_, rfl⟩
  have b1 : Below w.heap.size w w0 := by rw [hw0]; exact below_alloc (below_alloc (Below.refl _ w) _) _
  have hG : Hid (Gath w w0 w.heap.size (w.heap.size + 1) (.slice none 0 0) (.slice none 0 0) [] []) := by
    refine ⟨?_, ?_, own_nil _ _ _ _, own_nil _ _ _ _, ne_nil _, b1, Nat.le_refl _, by omega, by omega⟩
    · rw [hw0]
      exact blk_alloc (heap_alloc_new w _) _
    · rw [hw0]
      have := heap_alloc_new (w.alloc (.cells #[.slice none 0 0] 28)) (.cells #[.slice none 0 0] 28)
      rw [World.size_alloc] at this
      exact this
  have hM0 := Lib.hid (HM.out.below b1)
  have q2 : Hid (w0.cell? ⟨gm, 2, none⟩ = some (ptr (gAt L 0))) := blk_cell hM0.out.ch.mem 2
  clear b1
  obtain ⟨p0, hp0⟩ : ∃ p0, p0 = ptr (gAt L 0) := ⟨_, rfl⟩
  have q2' : ((w.alloc (.cells #[.slice none 0 0] 28)).alloc (.cells #[.slice none 0 0] 28)).cell? ⟨gm, 2, none⟩ = some p0 := by rw [← hw0, hp0]; exact q2.out
  have hmd := made_I w0 B gm gb most h m g L hM0.out
  rw [hw0] at hmd
  replace hmd := Lib.hid hmd
  replace hp0 := Lib.hid hp0
  replace hw0 := Lib.hid hw0
  go_enter Try.func19, Try.ntmps19
  go_wp2_with (first | (go_at_call 28; go_must (refine hmd.out.mono ?_); rintro e w' ⟨rfl, rfl⟩))
  rw [← hw0.out]
  clear q2' hmd
  go_loopg [5] L.length (fun gg s5 wr => ∃ (j : Nat) (vk vv : Value), gg = L.length - j ∧ j ≤ L.length ∧ Hid (s5 = ptr (gAt L j)) ∧ Hid (Gath w wr w.heap.size (w.heap.size + 1) vk vv ((keysOf L).take j) ((valsOf L).take j)))
  case atStart => exact ⟨0, _, _, by omega, by omega, hp0.out, by rw [List.take_zero, List.take_zero]; exact hG.out⟩
  case round =>
    clear hG hM0 q2
    obtain ⟨j, vk, vv, rfl, hj, hs5, hG⟩ := hrel
    obtain ⟨gk, hgk⟩ : ∃ gk, gk = w.heap.size := ⟨_, rfl⟩
    obtain ⟨gv, hgv⟩ : ∃ gv, gv = w.heap.size + 1 := ⟨_, rfl⟩
    by_cases hlt : j < L.length
    · obtain ⟨g0, hg0⟩ : ∃ g0, g0 = L[j].g := ⟨_, rfl⟩
      have e5 := hs5.out
      rw [gAt_lt hlt, ← hg0] at e5
      simp only [ptr] at e5
      subst e5
      rw [← hgv, ← hgk] at hG
      obtain ⟨xk, hxk⟩ : ∃ xk, xk = (keysOf L).take j := ⟨_, rfl⟩
      obtain ⟨xv, hxv⟩ : ∃ xv, xv = (valsOf L).take j := ⟨_, rfl⟩
      rw [← hxk, ← hxv] at hG
      have hxkl : xk.length ≤ 4096 := by rw [hxk, List.length_take]; omega
      have hxvl : xv.length ≤ 4096 := by rw [hxv, List.length_take]; omega
      obtain ⟨Ak, ck, rfl, -⟩ := own_rd hG.out.ok
      obtain ⟨Av, cv, rfl, -⟩ := own_rd hG.out.ov
      obtain ⟨k0, hk0⟩ : ∃ k0, k0 = L[j].k := ⟨_, rfl⟩
      obtain ⟨v0, hv0⟩ : ∃ v0, v0 = L[j].v := ⟨_, rfl⟩
      have hrow : w.heap[g0]? = some (.cells #[.int .i64 k0, .int .i64 v0, ptr (nwAt L j), ptr (olAt L j)] 74 (0, 0)) := by rw [hg0, hk0, hv0]; exact HM.out.ch.row j hlt
      have hgl : g0 < w.heap.size := blk_lt hrow
      have hr0 := (hG.out.bel.block g0 hgl).trans hrow
      have a0 : wr.cell? ⟨gk, 0, none⟩ = some (.slice Ak xk.length ck) := blk_cell hG.out.bk 0
      have a1 : wr.cell? ⟨g0, 0, none⟩ = some (.int .i64 k0) := blk_cell hr0 0
      obtain ⟨v1, w4, ar, hb4, hb5, ho5, hc4, hc5, ⟨A5, c5, rfl⟩, hat5⟩ := collect k0 hG.out.bk hG.out.ok hG.out.bel.size (by omega)
      have abl : Below wr.drew.heap.size wr.drew (World.alloc wr.drew (.cells #[.int .i64 k0] 3)) := below_alloc (Below.refl _ wr.drew) _
      have az0 : w4.cell? ⟨gk, 0, none⟩ = some (.slice Ak xk.length ck) := blk_cell hb4 0
      have az1 : w4.cell? ⟨g0, 0, none⟩ = some (.int .i64 k0) := blk_cell (hc4.blk hr0 (fun h => by have := own_base hG.out.ok _ h; omega)) 0
      have af := blk_frozen hb4 0
      have hG5 := Lib.hid (hG.out.addK hb5 ho5 hc5 hat5)
      obtain ⟨w5, hw5⟩ : ∃ w5, w5 = w4.setCell ⟨gk, 0, none⟩ (.slice A5 (xk ++ [k0]).length c5) := ⟨_, rfl⟩
      rw [← hw5] at hG5
      have hr5 := (hG5.out.bel.block g0 hgl).trans hrow
      have b0 : w5.cell? ⟨gv, 0, none⟩ = some (.slice Av xv.length cv) := blk_cell hG5.out.bv 0
      have b1 : w5.cell? ⟨g0, 1, none⟩ = some (.int .i64 v0) := blk_cell hr5 1
      obtain ⟨v2, w6, br, hb6, hb7, ho7, hc6, hc7, ⟨A7, c7, rfl⟩, hat7⟩ := collect v0 hG5.out.bv hG5.out.ov hG5.out.bel.size (by omega)
      have bbl : Below w5.drew.heap.size w5.drew (World.alloc w5.drew (.cells #[.int .i64 v0] 3)) := below_alloc (Below.refl _ w5.drew) _
      have bz0 : w6.cell? ⟨gv, 0, none⟩ = some (.slice Av xv.length cv) := blk_cell hb6 0
      have bz1 : w6.cell? ⟨g0, 1, none⟩ = some (.int .i64 v0) := blk_cell (hc6.blk hr5 (fun h => by have := own_base hG5.out.ov _ h; omega)) 1
      have bf := blk_frozen hb6 0
      have hG7 := Lib.hid (hG5.out.addV hb7 ho7 hc7 hat7)
      have hr7 := (hG7.out.bel.block g0 hgl).trans hrow
      have hol : (World.setCell w6 ⟨gv, 0, none⟩ (.slice A7 (xv ++ [v0]).length c7)).cell? ⟨g0, 3, none⟩ = some (ptr (olAt L j)) := blk_cell hr7 3
      obtain ⟨pn, hpn⟩ : ∃ pn, pn = ptr (olAt L j) := ⟨_, rfl⟩
      rw [← hpn] at hol
      have hxk2 : Hid (xk ++ [k0] = (keysOf L).take (j + 1)) := by
        show _ = _
        rw [hxk, List.take_succ_eq_append_getElem (by simp [keysOf]; omega), hk0]
        simp [keysOf]
      have hxv2 : Hid (xv ++ [v0] = (valsOf L).take (j + 1)) := by
        show _ = _
        rw [hxv, List.take_succ_eq_append_getElem (by simp [valsOf]; omega), hv0]
        simp [valsOf]
      obtain ⟨xk2, hxk3⟩ : ∃ xk2, xk2 = xk ++ [k0] := ⟨_, rfl⟩
      obtain ⟨xv2, hxv3⟩ : ∃ xv2, xv2 = xv ++ [v0] := ⟨_, rfl⟩
      simp only [← hxk3, ← hxv3] at *
      replace hxk := Lib.hid hxk
      replace hxv := Lib.hid hxv
      replace hxk3 := Lib.hid hxk3
      replace hxv3 := Lib.hid hxv3
      replace hg0 := Lib.hid hg0
      replace hk0 := Lib.hid hk0
      replace hv0 := Lib.hid hv0
      replace hpn := Lib.hid hpn
      replace hgk := Lib.hid hgk
      replace hgv := Lib.hid hgv
      replace hw5 := Lib.hid hw5
      clear hrow hr0 hb4 hb5 ho5 hc4 hc5 hat5 hr5 hb6 hb7 ho7 hc6 hc7 hat7 hr7 hG
      rw [← hgv.out, ← hgk.out]
      go_wp2_with fail
      refine start_ (n := 8) (S := fun w' => w'.cell? ⟨gk, 0, none⟩ = some (.slice Ak xk.length ck) ∧ w'.cell? ⟨g0, 0, none⟩ = some (.int .i64 k0)) (ds := [7]) #[false, false, false, false, false, false, false, false] (by kernel_rfl) rfl rfl ⟨a0, a1⟩ (fun hHeld => ?_)
      refine pure_ (i := 1) (N := some 19) (v := ?_) (a' := ?_) #[false, true, false, false, false, false, false, false] rfl rfl (by kernel_rfl) (fun _ _ _ h => h) (Or.inl ⟨by rfl, ?_⟩) ?_ ?_
      rotate_left
      · intro w'
        go_simp
        with_reducible rfl
      rotate_left
      · simp only [Act.put, List.setIfInBounds_toArray, List.set_cons_zero, List.set_cons_succ, i64_w, i32_w]
        rfl
      refine pure_ (i := 2) (N := some 20) (v := ?_) (a' := ?_) #[false, true, true, false, false, false, false, false] rfl rfl (by kernel_rfl) (fun _ _ _ h => h) (Or.inl ⟨by rfl, ?_⟩) ?_ ?_
      rotate_left
      · intro w'
        go_simp
        with_reducible rfl
      rotate_left
      · simp only [Act.put, List.setIfInBounds_toArray, List.set_cons_zero, List.set_cons_succ, i64_w, i32_w]
        rfl
      refine pure_ (i := 3) (N := some 21) (v := ?_) (a' := ?_) #[false, true, true, true, false, false, false, false] rfl rfl (by kernel_rfl) (fun _ _ _ h => h) (Or.inl ⟨by rfl, ?_⟩) ?_ ?_
      rotate_left
      · intro w'
        go_simp
        with_reducible rfl
      rotate_left
      · simp only [Act.put, List.setIfInBounds_toArray, List.set_cons_zero, List.set_cons_succ, i64_w, i32_w]
        rfl
      refine take_ (i := 0) (N := some 18) (v := ?_) (a' := ?_) #[true, true, true, true, false, false, false, false] rfl rfl (by kernel_rfl) (fun _ _ _ h => h) (Or.inl ⟨by rfl, ?_⟩) hHeld ?_ ?_
      rotate_left
      · rintro w' ⟨s0, s1⟩
        go_simp
        with_reducible rfl
      rotate_left
      · simp only [Act.put, List.setIfInBounds_toArray, List.set_cons_zero, List.set_cons_succ, i64_w, i32_w]
        rfl
      refine take_ (i := 4) (N := some 22) (v := ?_) (a' := ?_) #[true, true, true, true, true, false, false, false] rfl rfl (by kernel_rfl) (fun _ _ _ h => h) (Or.inl ⟨by rfl, ?_⟩) hHeld ?_ ?_
      rotate_left
      · rintro w' ⟨s0, s1⟩
        go_simp
        with_reducible rfl
      rotate_left
      · simp only [Act.put, List.setIfInBounds_toArray, List.set_cons_zero, List.set_cons_succ, i64_w, i32_w]
        rfl
      refine one_ (i := 5) (N := some 23) #[true, true, true, true, true, true, false, false] rfl rfl (by kernel_rfl) (by decide) (fun K hK => ?_)
      refine value_ (w1 := ?_) (v := ?_) (by rfl) rfl ?_ ?_
      rotate_left 2
      · go_simp
        constructor
        · rfl
        · rfl
      refine hK.out _ _ ⟨pw_cell_below abl hHeld.1, pw_cell_below abl hHeld.2⟩ (fun hHeld => ?_)
      clear hK K
      refine norm_ (a' := ?_) ?_ ?_
      rotate_left
      · show Act.put _ (some 23) _ = _
        simp only [Act.put, List.setIfInBounds_toArray, List.set_cons_zero, List.set_cons_succ, i64_w, i32_w]
        rfl
      refine one_ (i := 6) (N := some 24) #[true, true, true, true, true, true, true, false] rfl rfl (by kernel_rfl) (by decide) (fun K hK => ?_)
      refine step_run_append rfl (.tmp 18) (.tmp 23) 28 rfl rfl rfl ar ?_
      refine hK.out _ _ ⟨az0, az1⟩ (fun hHeld => ?_)
      clear hK K
      refine norm_ (a' := ?_) ?_ ?_
      rotate_left
      · show Act.put _ (some 24) _ = _
        simp only [Act.put, List.setIfInBounds_toArray, List.set_cons_zero, List.set_cons_succ, i64_w, i32_w]
        rfl
      refine last_ (i := 7) (N := none) #[true, true, true, true, true, true, true, true] rfl rfl (by kernel_rfl) (by decide) (fun K hK => ?_)
      refine skip_ (w1 := ?_) (by rfl) rfl ?_ ?_
      rotate_left
      · go_simp
        rfl
      refine hK.out _ _ ?_
      clear hK K
      refine done_ (by kernel_rfl) ?_
      clear hHeld
      rw [← hw5.out]
      go_wp2_with fail
      refine start_ (n := 8) (S := fun w' => w'.cell? ⟨gv, 0, none⟩ = some (.slice Av xv.length cv) ∧ w'.cell? ⟨g0, 1, none⟩ = some (.int .i64 v0)) (ds := [7]) #[false, false, false, false, false, false, false, false] (by kernel_rfl) rfl rfl ⟨b0, b1⟩ (fun hHeld => ?_)
      refine pure_ (i := 1) (N := some 26) (v := ?_) (a' := ?_) #[false, true, false, false, false, false, false, false] rfl rfl (by kernel_rfl) (fun _ _ _ h => h) (Or.inl ⟨by rfl, ?_⟩) ?_ ?_
      rotate_left
      · intro w'
        go_simp
        with_reducible rfl
      rotate_left
      · simp only [Act.put, List.setIfInBounds_toArray, List.set_cons_zero, List.set_cons_succ, i64_w, i32_w]
        rfl
      refine pure_ (i := 2) (N := some 27) (v := ?_) (a' := ?_) #[false, true, true, false, false, false, false, false] rfl rfl (by kernel_rfl) (fun _ _ _ h => h) (Or.inl ⟨by rfl, ?_⟩) ?_ ?_
      rotate_left
      · intro w'
        go_simp
        with_reducible rfl
      rotate_left
      · simp only [Act.put, List.setIfInBounds_toArray, List.set_cons_zero, List.set_cons_succ, i64_w, i32_w]
        rfl
      refine pure_ (i := 3) (N := some 28) (v := ?_) (a' := ?_) #[false, true, true, true, false, false, false, false] rfl rfl (by kernel_rfl) (fun _ _ _ h => h) (Or.inl ⟨by rfl, ?_⟩) ?_ ?_
      rotate_left
      · intro w'
        go_simp
        with_reducible rfl
      rotate_left
      · simp only [Act.put, List.setIfInBounds_toArray, List.set_cons_zero, List.set_cons_succ, i64_w, i32_w]
        rfl
      refine take_ (i := 0) (N := some 25) (v := ?_) (a' := ?_) #[true, true, true, true, false, false, false, false] rfl rfl (by kernel_rfl) (fun _ _ _ h => h) (Or.inl ⟨by rfl, ?_⟩) hHeld ?_ ?_
      rotate_left
      · rintro w' ⟨s0, s1⟩
        go_simp
        with_reducible rfl
      rotate_left
      · simp only [Act.put, List.setIfInBounds_toArray, List.set_cons_zero, List.set_cons_succ, i64_w, i32_w]
        rfl
      refine take_ (i := 4) (N := some 29) (v := ?_) (a' := ?_) #[true, true, true, true, true, false, false, false] rfl rfl (by kernel_rfl) (fun _ _ _ h => h) (Or.inl ⟨by rfl, ?_⟩) hHeld ?_ ?_
      rotate_left
      · rintro w' ⟨s0, s1⟩
        go_simp
        with_reducible rfl
      rotate_left
      · simp only [Act.put, List.setIfInBounds_toArray, List.set_cons_zero, List.set_cons_succ, i64_w, i32_w]
        rfl
      refine one_ (i := 5) (N := some 30) #[true, true, true, true, true, true, false, false] rfl rfl (by kernel_rfl) (by decide) (fun K hK => ?_)
      refine value_ (w1 := ?_) (v := ?_) (by rfl) rfl ?_ ?_
      rotate_left 2
      · go_simp
        constructor
        · rfl
        · rfl
      refine hK.out _ _ ⟨pw_cell_below bbl hHeld.1, pw_cell_below bbl hHeld.2⟩ (fun hHeld => ?_)
      clear hK K
      refine norm_ (a' := ?_) ?_ ?_
      rotate_left
      · show Act.put _ (some 30) _ = _
        simp only [Act.put, List.setIfInBounds_toArray, List.set_cons_zero, List.set_cons_succ, i64_w, i32_w]
        rfl
      refine one_ (i := 6) (N := some 31) #[true, true, true, true, true, true, true, false] rfl rfl (by kernel_rfl) (by decide) (fun K hK => ?_)
      refine step_run_append rfl (.tmp 25) (.tmp 30) 28 rfl rfl rfl br ?_
      refine hK.out _ _ ⟨bz0, bz1⟩ (fun hHeld => ?_)
      clear hK K
      refine norm_ (a' := ?_) ?_ ?_
      rotate_left
      · show Act.put _ (some 31) _ = _
        simp only [Act.put, List.setIfInBounds_toArray, List.set_cons_zero, List.set_cons_succ, i64_w, i32_w]
        rfl
      refine last_ (i := 7) (N := none) #[true, true, true, true, true, true, true, true] rfl rfl (by kernel_rfl) (by decide) (fun K hK => ?_)
      refine skip_ (w1 := ?_) (by rfl) rfl ?_ ?_
      rotate_left
      · go_simp
        rfl
      refine hK.out _ _ ?_
      clear hK K
      refine done_ (by kernel_rfl) ?_
      clear hHeld
      go_wp2_with fail
      rw [hgk.out, hgv.out]
      go_roundg (L.length - (j + 1))
      case measure => omega
      case rel => exact ⟨j + 1, _, _, by omega, by omega, hpn.out, by rw [← hxk2.out, ← hxv2.out, ← hgv.out, ← hgk.out]; exact hG7.out⟩
    · have e5 := hs5.out
      rw [gAt_ge (by omega)] at e5
      simp only [ptr] at e5
      subst e5
      have hje : j = L.length := by omega
      have hG2 : Hid (Gath w wr w.heap.size (w.heap.size + 1) vk vv (keysOf L) (valsOf L)) := by
        have := hG.out
        rw [List.take_of_length_le (by simp [keysOf]; omega), List.take_of_length_le (by simp [valsOf]; omega)] at this
        exact this
      clear hG hje
      go_wp2_with fail
      go_ret
      exact ⟨_, _, vk, vv, rfl, hG2.out⟩
end Go.Proofs.Ytecgbhiebaiokaa.G

/- The contract of the iterator that All hands back. -/
namespace Go.Proofs.Ytecgbhiebaiokaa.G
open Go.RowKit Go.Shelf Go.Proofs.YtecgbhiebaiokaaW.PrintWords Go.Proofs.YtecgbhiebaiokaaW.PrintLast Go.Proofs.YtecgbhiebaiokaaW.PrintMore
attribute [local go_sem] Oper.semAt_some
set_option linter.unusedSimpArgs false
set_option linter.unusedVariables false
/-- what a walk goes over, in memory that S leaves alone -/
structure Wk (W : World) (S : Nat → Prop) (gk gv : Nat) (M : KV) : Prop where
  ck : ∃ A c, W.cell? ⟨gk, 0, none⟩ = some (.slice A M.length c) ∧ KeysRd W A (M.map (·.1)) ∧ ∀ ad, A = some ad → ¬ S ad.block
  cv : ∃ A c, W.cell? ⟨gv, 0, none⟩ = some (.slice A M.length c) ∧ KeysRd W A (M.map (·.2)) ∧ ∀ ad, A = some ad → ¬ S ad.block
  lk : ¬ S gk
  lv : ¬ S gv
theorem add_block (ad : Addr) (j : Nat) : (ad.add j).block = ad.block := by
  unfold Addr.add
  split <;> rfl
theorem Chg.cell {w w1 : World} {S : Nat → Prop} (hc : Chg w w1 S) {a : Addr} {v : Value} (h : w.cell? a = some v) (hn : ¬ S a.block) : w1.cell? a = some v := (World.cell?_of_block (hc.block a.block (World.block_lt_of_cell? w a h) hn)).trans h
theorem KeysRd.chg {w w1 : World} {S : Nat → Prop} {A : Option Addr} {l : List Int} (h : KeysRd w A l) (hb : Chg w w1 S) (ha : ∀ ad, A = some ad → ¬ S ad.block) : KeysRd w1 A l :=
  ⟨h.1, h.2.1, fun hp => by
    obtain ⟨ad, e, hc⟩ := h.2.2 hp
    exact ⟨ad, e, fun j hj => hb.cell (hc j hj) (by rw [add_block]; exact ha ad e)⟩⟩
theorem Wk.chg {W W' : World} {S : Nat → Prop} {gk gv : Nat} {M : KV} (k : Wk W S gk gv M) (hb : Chg W W' S) : Wk W' S gk gv M := by
  obtain ⟨⟨A, c, h1, h2, h3⟩, ⟨A', c', h4, h5, h6⟩, l1, l2⟩ := k
  exact ⟨⟨A, c, hb.cell h1 l1, h2.chg hb h3, h3⟩, ⟨A', c', hb.cell h4 l2, h5.chg hb h6, h6⟩, l1, l2⟩
theorem Wk.below {W W' : World} {S : Nat → Prop} {gk gv : Nat} {M : KV} (k : Wk W S gk gv M) (hb : Below W.heap.size W W') : Wk W' S gk gv M := by
  obtain ⟨⟨A, c, h1, h2, h3⟩, ⟨A', c', h4, h5, h6⟩, l1, l2⟩ := k
  exact ⟨⟨A, c, pw_cell_below hb h1, h2.below hb, h3⟩, ⟨A', c', pw_cell_below hb h4, h5.below hb, h6⟩, l1, l2⟩
set_option maxRecDepth 100000 in
set_option maxHeartbeats 4000000 in
theorem all1_in (F : Fence) (n : Nat) (h35 : F.fn 35) (hro : F.round = none) (hn : 1 ≤ n) (l gk gv : Nat) (S : Nat → Prop) (M : KV) (hM : M.length ≤ 1000000) (J Jx : KV → World → Prop)
    (hY : ∀ pre x W, J pre W → pre.length < M.length → YieldAt F (n - 1) Try.prog l #[.int .i64 x.1, .int .i64 x.2] W fun e W' =>
      (e = .returned (.bool true) ∧ J (pre ++ [x]) W' ∧ Chg W W' S) ∨ (e = .returned (.bool false) ∧ Jx (pre ++ [x]) W'))
    (W : World) (hW : Wk W S gk gv M) (h0 : J [] W) :
    CallsIn F n Try.prog 35 #[.func (.yield l) #[] #[], .pointer (some ⟨gk, 0, none⟩), .pointer (some ⟨gv, 0, none⟩)] W fun e W' => (∃ v, e = .returned v) ∧
      ((∃ ys, ys = M ∧ J ys W') ∨ (∃ pre, pre <+: M ∧ Jx pre W')) := by
  obtain ⟨Ak, ck, hk0, hkr, hkb⟩ := hW.ck
  have HW := Lib.hid hW
  have HJ := Lib.hid h0
  clear hW h0
  replace hkr := Lib.hid hkr
  replace hkb := Lib.hid hkb
  refine callsIn_of_wp Try.func35 rfl h35 ?_ hro
  simp only [Try.ntmps35, List.size_toArray, List.length_cons, List.length_nil, Nat.reduceAdd, Nat.reduceSub, Array.replicate_succ, Array.replicate_zero, List.push_toArray, List.append_toArray, List.nil_append, List.cons_append]
  gi_wp2
  gi_loopw [8] (fun i wr => ∃ k : Nat, k ≤ M.length ∧ i = .int .i64 k ∧ Hid (J (M.take k) wr) ∧ Hid (Chg W wr S))
    (fun i _ => M.length - (intOf i).toNat)
  case atStart => exact ⟨0, Nat.zero_le _, rfl, HJ.out, Chg.refl _ _⟩
  case round =>
    clear HJ
    obtain ⟨k, hk, rfl, hJs, hnx⟩ := hrel
    by_cases hlt : k < M.length
    · obtain ⟨ad, rfl, hc1⟩ := KeysRd.get (hkr.out.chg hnx.out hkb.out) (j := k) (by rw [List.length_map]; exact hlt)
      obtain ⟨Av, cv, hv0, hvr, -⟩ := (HW.out.chg hnx.out).cv
      obtain ⟨ad2, rfl, hc2⟩ := KeysRd.get hvr (j := k) (by rw [List.length_map]; exact hlt)
      obtain ⟨a, ha⟩ : ∃ a, a = M[k].1 := ⟨_, rfl⟩
      obtain ⟨b, hb⟩ : ∃ b, b = M[k].2 := ⟨_, rfl⟩
      rw [List.getElem_map, ← ha] at hc1
      rw [List.getElem_map, ← hb] at hc2
      have hab : Hid (M.take k ++ [(a, b)] = M.take (k + 1)) := by
        show _ = _
        rw [List.take_succ_eq_append_getElem hlt, ha, hb]
      obtain ⟨fn, tmps, assign, body, hy, hR⟩ := hY (M.take k) (a, b) wr hJs.out (by rw [List.length_take]; omega)
      dsimp only at hy
      replace ha := Lib.hid ha
      replace hb := Lib.hid hb
      replace hvr := Lib.hid hvr
      replace hR := Lib.hid hR
      gi_wp2
      refine hR.out.mono ?_
      rintro e W3 (⟨rfl, hJ3, hk3⟩ | ⟨rfl, hJx3⟩)
      · rw [hab.out] at hJ3
        replace hJ3 := Lib.hid hJ3
        replace hk3 := Lib.hid (hnx.out.trans hk3 (fun _ _ h => h))
        gi_wp2
        go_roundw
        case rel => exact ⟨k + 1, by omega, by simp, hJ3, hk3⟩
        case measure => simp [intOf]; omega
      · rw [hab.out] at hJx3
        replace hJx3 := Lib.hid hJx3
        gi_wp2
        refine bodyPost_ret (results_none rfl _ _ _) rfl ?_
        exact ⟨⟨_, rfl⟩, .inr ⟨_, List.take_prefix _ _, hJx3.out⟩⟩
    · have hkl : k = M.length := by omega
      have hJs2 : Hid (J M wr) := by
        have := hJs.out
        rw [hkl, List.take_length] at this
        exact this
      clear hJs hkl
      gi_wp2
      go_end0
      exact ⟨⟨_, rfl⟩, .inl ⟨_, rfl, hJs2.out⟩⟩
theorem all_stops (F : Fence) (n : Nat) (h35 : F.fn 35) (hro : F.round = none) (hn : 1 ≤ n) (gk gv : Nat) (S : Nat → Prop) (M : KV) (hM : M.length ≤ 1000000) (w : World) (hw : Wk w S gk gv M) :
    SeqStopsK F n Try.prog 35 #[.pointer (some ⟨gk, 0, none⟩), .pointer (some ⟨gv, 0, none⟩)] (fun x : Int × Int => #[Value.int .i64 x.1, .int .i64 x.2]) (fun A B => Chg A B S) (fun ys => ys = M) (fun pre => pre <+: M) M.length w := fun l J Jx W hW _ _ hY h0 =>
  all1_in F n h35 hro hn l gk gv S M hM J Jx hY W (hw.below hW) h0
end Go.Proofs.Ytecgbhiebaiokaa.G

/- The contract of stands. -/
namespace Go.Proofs.Ytecgbhiebaiokaa.G
open Go.RowKit Go.Shelf Go.Proofs.YtecgbhiebaiokaaW.PrintWords Go.Proofs.YtecgbhiebaiokaaW.PrintLast Go.Proofs.YtecgbhiebaiokaaW.PrintMore
attribute [local go_sem] Oper.semAt_some
set_option linter.unusedSimpArgs false
set_option linter.unusedVariables false
section
variable {F : Fence} {n : Nat} {P : Program} {ops : Array Oper} {Q : Exit → Act → World → Prop} {md : Region.Mode}
/-- what no defer statement stands in goes in a round as it goes outside one -/
theorem wpOpIn_inRound (hro : F.round = none) (l : Nat) (hnd : ∀ o ∈ ops, ∀ c, o.op ≠ .defer c) {i : Nat} {K : Act → World → Prop} {a : Act} {w : World} (h : wpOpIn F n P ops Q i K a w) : wpOpIn (F.inRound l) n P ops Q i K a w := by
  unfold wpOpIn at *
  cases ho : ops[i]? with
  | none => simpa [ho] using h
  | some o =>
    simp only [ho] at h ⊢
    have hm := hnd o (Array.mem_of_getElem? ho)
    split
    · rename_i hw
      simp only [hw, if_true] at h
      unfold Oper.wpIn at *
      rw [Oper.semAt_eq _ _ _ hm] at h ⊢
      exact h
    · rename_i hw
      simp only [hw] at h
      exact h
theorem wpAnyIn_inRound (hro : F.round = none) (l : Nat) (hnd : ∀ o ∈ ops, ∀ c, o.op ≠ .defer c) : ∀ (fuel : Nat) (listed : Array Bool) (a : Act) (w : World), wpAnyIn F n P md ops Q fuel listed a w → wpAnyIn (F.inRound l) n P md ops Q fuel listed a w
  | 0, _, _, _, h => h
  | fuel + 1, listed, a, w, h => ⟨h.1, fun i hi => wpOpIn_mono (fun a w h => wpAnyIn_inRound hro l hnd fuel _ a w h) (wpOpIn_inRound hro l hnd (h.2 i hi))⟩
/-- a region that only reads, in a round: one order serves all -/
theorem quiet_round {id : Nat} {a : Act} {w : World} {L : List Oper} (hro : F.round = none) (l : Nat) (hm : P.follows .mixedOrders = true) (hB : Region.lexB .any L.toArray = true) (hnd : L.all (fun o => match o.op with | .defer _ => false | _ => true) = true)
    (h : wpQuietIn F n P L.toArray (fun w' => ∃ n, w' = w.drewN n) (fun a' => ∀ w', (∃ n, w' = w.drewN n) → Q .normal a' w') L a) : (Code.region id L.toArray true).wpIn (F.inRound l) n P Q a w := by
  have hB2 := hB
  simp only [Region.lexB, Bool.and_eq_true] at hB
  refine wpIn_region_any hm (wpAnyIn_inRound hro l (fun o ho c hc => ?_) _ _ _ _ (wpAnyIn_of_quiet (Q := fun a' => ∀ w', (∃ n, w' = w.drewN n) → Q .normal a' w') hro (fun _ w' hw' h => h w' hw') _ _ _ _ (C := fun w' => ∃ n, w' = w.drewN n) ⟨1, rfl⟩ ?_))
  · have := List.all_eq_true.1 hnd o (by simpa using ho)
    rw [hc] at this
    cases this
  · have := wpAnyQIn_lex (F := F) (n := n) (C := fun w' => ∃ n, w' = w.drewN n) (md := .any) hB.1 L 0 (Array.replicate L.toArray.size false) a (by simp) (by simpa using hB.2) h
    simpa using this
end
/-- a statement is left by its end alone -/
def OnlyN (Q : Exit → Act → World → Prop) : Exit → Act → World → Prop
  | .normal, a, w => Q .normal a w
  | _, _, _ => False
theorem OnlyN.of {P : Program} {c : Code} {Q : Exit → Act → World → Prop} {a : Act} {w : World} (h : c.wp P (OnlyN Q) a w) : c.wp P Q a w := wp_mono h (fun e a w hq => by
  cases e with
  | normal => exact hq
  | _ => exact False.elim hq)
theorem OnlyN.mk {Q : Exit → Act → World → Prop} {a : Act} {w : World} (h : Q .normal a w) : OnlyN Q .normal a w := h
set_option maxRecDepth 100000 in
set_option maxHeartbeats 8000000 in
theorem stands_calls (w0 W0 : World) (gm gb gq n : Nat) (h m g : Int) (L : List (Ent Int)) (v : Value) (hBo : Both w0 W0 gm gb gq n h m g L v) :
    Calls Try.prog 20 #[.pointer (some ⟨gm, 0, none⟩), .pointer (some ⟨gq, 0, none⟩)] W0 fun e w' => e = .returned (.bool true) ∧ Below W0.heap.size W0 w' := by
  obtain ⟨W1, hW1⟩ : ∃ W1, W1 = ((W0.alloc (.cells #[.pointer (some ⟨gq, 0, none⟩)] 51)).alloc (.cells #[.bool false] 4)).alloc (.cells #[.int .i64 0] 3) := ⟨_, rfl⟩
  have hB := Lib.hid hBo
  have b1 : Below W0.heap.size W0 W1 := by rw [hW1]; exact below_alloc (below_alloc (below_alloc (Below.refl _ W0) _) _) _
  have hAll := All_I W1 w0.heap.size gm gb n h m g L (hBo.me.below b1)
  rw [hW1] at hAll
  replace hAll := Lib.hid hAll
  replace hW1 := Lib.hid hW1
  refine (callsIn_wide (n := 5)).1 ?_
  refine callsIn_of_wp_marks Try.func20 rfl trivial ?_ rfl
  simp only [Try.ntmps20, List.size_toArray, List.length_cons, List.length_nil, Nat.reduceAdd, Nat.reduceSub, Array.replicate_succ, Array.replicate_zero, List.push_toArray, List.append_toArray, List.nil_append, List.cons_append]
  gi_wp2_with (refine ⟨trivial, ?_⟩; gi_at_call 19; refine (callsIn_wide.2 hAll.out).mono ?_; rintro e w2 ⟨gk, gv, vk, vv, rfl, hG⟩; replace hG := Lib.hid hG)
  obtain ⟨bq, hbq⟩ : ∃ bq, bq = W0.heap.size := ⟨_, rfl⟩
  obtain ⟨br, hbr0⟩ : ∃ br, br = W0.heap.size + 1 := ⟨_, rfl⟩
  obtain ⟨bn, hbn⟩ : ∃ bn, bn = W0.heap.size + 1 + 1 := ⟨_, rfl⟩
  rw [← hbn, ← hbr0, ← hbq]
  rw [← hW1.out] at hG
  have hs1 : W1.heap.size = W0.heap.size + 3 := by rw [hW1.out]; simp
  have k1 : W1.heap[bq]? = some (.cells #[.pointer (some ⟨gq, 0, none⟩)] 51 (0, 0)) := by rw [hW1.out, hbq]; exact blk_alloc (blk_alloc (heap_alloc_new W0 _) _) _
  have k2 : W1.heap[br]? = some (.cells #[.bool false] 4 (0, 0)) := by
    rw [hW1.out, hbr0]
    have := heap_alloc_new (W0.alloc (.cells #[.pointer (some ⟨gq, 0, none⟩)] 51)) (.cells #[.bool false] 4)
    rw [World.size_alloc] at this
    exact blk_alloc this _
  have k3 : W1.heap[bn]? = some (.cells #[.int .i64 0] 3 (0, 0)) := by
    rw [hW1.out, hbn]
    have := heap_alloc_new ((W0.alloc (.cells #[.pointer (some ⟨gq, 0, none⟩)] 51)).alloc (.cells #[.bool false] 4)) (.cells #[.int .i64 0] 3)
    rw [World.size_alloc, World.size_alloc] at this
    exact this
  have B2 : Below W1.heap.size W1 w2 := hG.out.bel
  have k1 := blk_below k1 B2
  have k2 := blk_below k2 B2
  have k3 := blk_below k3 B2
  have B02 : Below W0.heap.size W0 w2 := below_step b1 B2
  have hl4 : L.length ≤ 4096 := by have := hBo.me.ln; have := hBo.me.m2; omega
  have hgkl : gk < w2.heap.size := blk_lt hG.out.bk
  have hgvl : gv < w2.heap.size := blk_lt hG.out.bv
  have hs2 : W1.heap.size ≤ w2.heap.size := B2.size
  have hwk : Wk w2 (fun q => q = bn ∨ w2.heap.size ≤ q) gk gv (kv L) := by
    have hkk : keysOf L = (kv L).map (·.1) := by simp [keysOf, kv]
    have hvv : valsOf L = (kv L).map (·.2) := by simp [valsOf, kv]
    have hlk : (keysOf L).length = (kv L).length := by simp [keysOf, kv]
    have hlv : (valsOf L).length = (kv L).length := by simp [valsOf, kv]
    obtain ⟨A, c, he, hr⟩ := own_rd hG.out.ok
    obtain ⟨A', c', he', hr'⟩ := own_rd hG.out.ov
    have hg1 := hG.out.gk0
    have hg2 := hG.out.gv0
    refine ⟨⟨A, c, ?_, by rw [← hkk]; exact hr, fun ad ha => ?_⟩, ⟨A', c', ?_, by rw [← hvv]; exact hr', fun ad ha => ?_⟩, by omega, by omega⟩
    · have := blk_cell hG.out.bk 0
      rw [he, hlk] at this
      exact this
    · have h1 := own_base hG.out.ok ad.block (by rw [he, ha]; rfl)
      have h2 := own_lt hG.out.ok ad.block (by rw [he, ha]; rfl)
      omega
    · have := blk_cell hG.out.bv 0
      rw [he', hlv] at this
      exact this
    · have h1 := own_base hG.out.ov ad.block (by rw [he', ha]; rfl)
      have h2 := own_lt hG.out.ov ad.block (by rw [he', ha]; rfl)
      omega
  have hbW : ∀ W, Chg w2 W (fun q => q = bn) → Below W0.heap.size W0 W := fun W hc => B02.trans (hc.below B02.size (fun q hq => by omega))
  have hBW : ∀ W, Chg w2 W (fun q => q = bn) → Both w0 W gm gb gq n h m g L v := fun W hc => hBo.thin (hbW W hc)
  replace hwk := Lib.hid hwk
  replace hbW := Lib.hid hbW
  replace hBW := Lib.hid hBW
  replace k1 := Lib.hid k1
  replace k2 := Lib.hid k2
  replace hbq := Lib.hid hbq
  replace hbr0 := Lib.hid hbr0
  replace hbn := Lib.hid hbn
  replace hs1 := Lib.hid hs1
  have hne1 : bq ≠ bn := by have := hbq.out; have := hbn.out; omega
  have hne2 : br ≠ bn := by have := hbr0.out; have := hbn.out; omega
  have hbnl : bn < w2.heap.size := blk_lt k3
  have hgqn : gq ≠ bn := by have := blk_lt hBo.r.q; have := hbn.out; omega
  clear hAll hW1 hBo b1 B2 B02
  refine wpIn_rangeFunc_ownF rfl (by omega) (gf := 35) (lb := #[.pointer (some ⟨gk, 0, none⟩), .pointer (some ⟨gv, 0, none⟩)]) rfl trivial (enters_of Try.func35 (by kernel_rfl) rfl)
    (all_stops Fence.wide (5 - 1) trivial rfl (by omega) gk gv (fun q => q = bn ∨ w2.heap.size ≤ q) (kv L) (by rw [kv_len]; omega) w2 hwk.out)
    (fun {A B C} h k => h.trans k (fun _ _ h => h)) (fun W l o o' hl ho _ _ => ⟨rfl, rfl, rfl, by simp, fun k hk hn => World.putObj_heap_other (fun e => hn (.inr (by omega)))⟩) (Below.refl _ _) (fun _ => rfl)
    (fun pre W => pre <+: kv L ∧ W.heap[bn]? = some (.cells #[.int .i64 pre.length] 3 (0, 0)) ∧ Chg w2 W (fun q => q = bn))
    (fun _ pre _ => ¬ pre <+: kv L)
    (fun pre A B row hs hg hr => ⟨hs.1, blk_grown hs.2.1 hg (fun e => by have := (hr bn e.symm).1; omega), hs.2.2.trans (Chg.of_grown hg) (fun q hq e => by have := (hr q e.symm).1; omega)⟩)
    (fun _ _ _ _ _ hs _ _ => hs)
    ⟨List.nil_prefix, k3, Chg.refl _ _⟩
    (fun x => { tmps := #[.pointer (some ⟨gm, 0, none⟩), .pointer (some ⟨gq, 0, none⟩), undef, .pointer (some ⟨bq, 0, none⟩), .pointer (some ⟨br, 0, none⟩), .pointer (some ⟨bn, 0, none⟩), .int .i64 x.1, .int .i64 x.2, .pointer (some ⟨gm, 0, none⟩), .func (.func 35) #[] #[.pointer (some ⟨gk, 0, none⟩), .pointer (some ⟨gv, 0, none⟩)], .int .i64 x.1, .int .i64 x.2, undef, undef, undef, undef, undef, undef, undef, undef, undef, undef, undef, undef, undef, undef, undef, undef, undef, undef, undef, undef, undef, undef, undef, undef, undef, undef, undef, undef, undef, undef, undef, undef, undef, undef, undef, undef, undef, undef, undef, undef, undef, undef, undef, undef, undef, undef, undef, undef, undef, undef, undef, undef, undef, undef, undef, undef, undef, undef, undef, undef, undef, undef, undef, undef], defers := [] }) ?assign ?body ?done ?stop
  case assign =>
    intro l x W K hK
    gi_wp2
    exact hK
  case body =>
    rintro l pre ⟨xa, xb⟩ W ⟨hpre, hn0, hc⟩ hlen
    have hB2 := hBW.out W hc
    obtain ⟨A, c, hv, hcl, hrd⟩ := hB2.r.o.rd
    obtain ⟨ad, rfl, hka, hva⟩ := hrd.at_ hlen
    have y2 : W.cell? ⟨gq, 1, none⟩ = some (.slice (some ad) (kv L).length c) := by rw [← hv]; exact blk_cell hB2.r.q 1
    have y0 : W.cell? ⟨bn, 0, none⟩ = some (.int .i64 pre.length) := blk_cell hn0 0
    have f0 := blk_frozen hn0 0
    have y1 : W.cell? ⟨bq, 0, none⟩ = some (.pointer (some ⟨gq, 0, none⟩)) := blk_cell (hc.blk k1.out hne1) 0
    have ybr : W.cell? ⟨br, 0, none⟩ = some (.bool false) := blk_cell (hc.blk k2.out hne2) 0
    have fbr := blk_frozen (hc.blk k2.out hne2) 0
    have hNl : (kv L).length ≤ 4096 := by rw [kv_len]; exact hl4
    obtain ⟨k0, hk0⟩ : ∃ k0, k0 = (kv L)[pre.length].1 := ⟨_, rfl⟩
    obtain ⟨v0, hv0⟩ : ∃ v0, v0 = (kv L)[pre.length].2 := ⟨_, rfl⟩
    rw [← hk0] at hka
    rw [← hv0] at hva
    have hget : Hid ((kv L)[pre.length] = (k0, v0)) := by show _ = _; rw [hk0, hv0]
    obtain ⟨N, hN⟩ : ∃ N, N = (kv L).length := ⟨_, rfl⟩
    obtain ⟨p, hp⟩ : ∃ p, p = pre.length := ⟨_, rfl⟩
    have hpN : p < N := by rw [hp, hN]; exact hlen
    have hN4 : N ≤ 4096 := by rw [hN]; exact hNl
    simp only [← hN, ← hp] at y2 y0 hka hva
    have hge : decide ((N : Int) ≤ (p : Int)) = false := by simp; omega
    have hlt : (p : Int) < (N : Int) := by omega
    have hnp : ¬ (N ≤ p) := by omega
    have hge2 : decide (N ≤ p) = false := by simp; omega
    replace hk0 := Lib.hid hk0
    replace hv0 := Lib.hid hv0
    replace hN := Lib.hid hN
    replace hp := Lib.hid hp
    replace hn0 := Lib.hid hn0
    replace hv := Lib.hid hv
    replace hpre := Lib.hid hpre
    have hlen2 := Lib.hid hlen
    clear hrd hB2 hNl
    by_cases t1 : (k0 == xa) = true
    · by_cases t2 : (v0 == xb) = true
      · have hpre2 : Hid (pre ++ [(xa, xb)] <+: kv L) := by
          have e1 : k0 = xa := eq_of_beq t1
          have e2 : v0 = xb := eq_of_beq t2
          have h3 := List.prefix_iff_eq_take.1 hpre.out
          show _ <+: _
          rw [h3, ← e1, ← e2, ← hget.out, ← List.take_succ_eq_append_getElem hlen2.out]
          exact List.take_prefix _ _
        have u1 : (k0 != xa) = false := by simp [bne, t1]
        have u2 : (v0 != xb) = false := by simp [bne, t2]
        gi_wp2_with fail
        refine quiet_round rfl l (by kernel_rfl) (by kernel_rfl) (by kernel_rfl) ?_
        repeat (gi_big_quiet_step (fail))
        refine wpQuietIn_nil ?_
        intro _ hw'
        obtain ⟨nq, rfl⟩ := hw'
        gi_wp2_with fail
        refine ⟨⟨(KeepsOthers.setCell (W.drewN nq) _ _).size, fun k o hk ho => (KeepsOthers.setCell (W.drewN nq) _ _).same k o hk ho⟩, ((Chg.refl W _).drewN nq).set_ (p := ⟨bn, 0, none⟩) (.inl rfl) _, hpre2.out, ?_, (hc.drewN nq).set_ (p := ⟨bn, 0, none⟩) rfl _⟩
        have h5 : (W.drewN nq).heap[bn]? = some (.cells #[.int .i64 pre.length] 3 (0, 0)) := hn0.out
        have h6 := set_row h5 0 (.int .i64 ((p : Int) + 1)) _ rfl
        rw [List.length_append, ← hp.out]
        exact h6
      · have t2' : (v0 == xb) = false := by simpa using t2
        have hno : Hid (¬ pre ++ [(xa, xb)] <+: kv L) := by
          intro h3
          have h4 := h3.getElem (i := pre.length) (by simp)
          rw [hget.out] at h4
          simp at h4
          exact t2 (by simp [h4.2])
        have u1 : (k0 != xa) = false := by simp [bne, t1]
        have u2 : (v0 != xb) = true := by simp [bne, t2']
        clear t2
        gi_wp2_with fail
        refine quiet_round rfl l (by kernel_rfl) (by kernel_rfl) (by kernel_rfl) ?_
        repeat (gi_big_quiet_step (fail))
        refine wpQuietIn_nil ?_
        intro _ hw'
        obtain ⟨nq, rfl⟩ := hw'
        gi_wp2_with fail
        exact ⟨⟨(KeepsOthers.setCell (W.drewN nq) _ _).size, fun k o hk ho => (KeepsOthers.setCell (W.drewN nq) _ _).same k o hk ho⟩, hno.out⟩
    · have t1' : (k0 == xa) = false := by simpa using t1
      have hno : Hid (¬ pre ++ [(xa, xb)] <+: kv L) := by
        intro h3
        have h4 := h3.getElem (i := pre.length) (by simp)
        rw [hget.out] at h4
        simp at h4
        exact t1 (by simp [h4.1])
      have u1 : (k0 != xa) = true := by simp [bne, t1']
      clear t1
      gi_wp2_with fail
      refine quiet_round rfl l (by kernel_rfl) (by kernel_rfl) (by kernel_rfl) ?_
      repeat (gi_big_quiet_step (fail))
      refine wpQuietIn_nil ?_
      intro _ hw'
      obtain ⟨nq, rfl⟩ := hw'
      gi_wp2_with fail
      exact ⟨⟨(KeepsOthers.setCell (W.drewN nq) _ _).size, fun k o hk ho => (KeepsOthers.setCell (W.drewN nq) _ _).same k o hk ho⟩, hno.out⟩
  case done =>
    rintro D ys W hD rfl ⟨-, hn0, hc⟩ hK
    have hB2 := hBW.out W hc
    obtain ⟨A, c, hv, hcl, hrd⟩ := hB2.r.o.rd
    have hlL := kv_len L
    rw [hlL] at hv hn0
    have y0 : W.cell? ⟨bn, 0, none⟩ = some (.int .i64 L.length) := blk_cell hn0 0
    have y1 : W.cell? ⟨bq, 0, none⟩ = some (.pointer (some ⟨gq, 0, none⟩)) := blk_cell (hc.blk k1.out hne1) 0
    have y2 : W.cell? ⟨gq, 1, none⟩ = some (.slice A L.length c) := by rw [← hv]; exact blk_cell hB2.r.q 1
    have y3 : W.cell? ⟨gq, 0, none⟩ = some (.int .i64 n) := blk_cell hB2.r.q 0
    have y4 : W.cell? ⟨gq, 2, none⟩ = some (.int .i64 h) := blk_cell hB2.r.q 2
    have y5 : W.cell? ⟨gq, 3, none⟩ = some (.int .i64 m) := blk_cell hB2.r.q 3
    have y6 : W.cell? ⟨gq, 4, none⟩ = some (.int .i64 g) := blk_cell hB2.r.q 4
    have hMd : Hid (Memo ktI W.drew w0.heap.size gm gb n h m g L) := hB2.me.drewN 1
    have hbr : Hid (W.heap[br]? = some (.cells #[.bool false] 4 (0, 0))) := hc.blk k2.out hne2
    have ybr : W.drew.cell? ⟨br, 0, none⟩ = some (.bool false) := blk_cell hbr.out 0
    have t1 : ((L.length : Int) == (L.length : Int)) = true := by simp
    have t2 : ((n : Int) == (n : Int)) = true := by simp
    have hBel := Lib.hid (hbW.out W hc)
    have hbrl : br < W.heap.size := blk_lt hbr.out
    have hbr1 : W0.heap.size ≤ br := by have := hbr0.out; omega
    have hDl : D < W.heap.size := (Array.getElem?_eq_some_iff.1 hK).1
    have hbr2 : br < w2.heap.size := blk_lt k2.out
    replace hv := Lib.hid hv
    replace hn0 := Lib.hid hn0
    replace hK := Lib.hid hK
    clear hB2 hrd hlL
    gi_wp2
    refine wpIn_wide.2 (OnlyN.of ?_)
    refine start_ (n := 32) (S := fun w' => w'.cell? ⟨bn, 0, none⟩ = some (.int .i64 L.length) ∧ w'.cell? ⟨bq, 0, none⟩ = some (.pointer (some ⟨gq, 0, none⟩)) ∧ w'.cell? ⟨gq, 1, none⟩ = some (.slice A L.length c) ∧ w'.cell? ⟨gq, 0, none⟩ = some (.int .i64 n) ∧ w'.cell? ⟨gq, 2, none⟩ = some (.int .i64 h) ∧ w'.cell? ⟨gq, 3, none⟩ = some (.int .i64 m) ∧ w'.cell? ⟨gq, 4, none⟩ = some (.int .i64 g)) (ds := [31]) #[false, false, false, false, false, false, false, false, false, false, false, false, false, false, false, false, false, false, false, false, false, false, false, false, false, false, false, false, false, false, false, false] (by kernel_rfl) rfl rfl ⟨y0, y1, y2, y3, y4, y5, y6⟩ (fun hHeld => ?_)
    refine take_ (i := 0) (N := some 45) (v := ?_) (a' := ?_) #[true, false, false, false, false, false, false, false, false, false, false, false, false, false, false, false, false, false, false, false, false, false, false, false, false, false, false, false, false, false, false, false] rfl rfl (by kernel_rfl) (fun _ _ _ h => h) (Or.inl ⟨by rfl, ?_⟩) hHeld ?_ ?_
    rotate_left
    · rintro w' ⟨s0, s1, s2, s3, s4, s5, s6⟩
      go_simp
      with_reducible rfl
    rotate_left
    · simp only [Act.put, List.setIfInBounds_toArray, List.set_cons_zero, List.set_cons_succ, i64_w, i32_w]
      rfl
    refine take_ (i := 1) (N := some 46) (v := ?_) (a' := ?_) #[true, true, false, false, false, false, false, false, false, false, false, false, false, false, false, false, false, false, false, false, false, false, false, false, false, false, false, false, false, false, false, false] rfl rfl (by kernel_rfl) (fun _ _ _ h => h) (Or.inl ⟨by rfl, ?_⟩) hHeld ?_ ?_
    rotate_left
    · rintro w' ⟨s0, s1, s2, s3, s4, s5, s6⟩
      go_simp
      with_reducible rfl
    rotate_left
    · simp only [Act.put, List.setIfInBounds_toArray, List.set_cons_zero, List.set_cons_succ, i64_w, i32_w]
      rfl
    refine pure_ (i := 2) (N := some 47) (v := ?_) (a' := ?_) #[true, true, true, false, false, false, false, false, false, false, false, false, false, false, false, false, false, false, false, false, false, false, false, false, false, false, false, false, false, false, false, false] rfl rfl (by kernel_rfl) (fun _ _ _ h => h) (Or.inl ⟨by rfl, ?_⟩) ?_ ?_
    rotate_left
    · intro w'
      go_simp
      with_reducible rfl
    rotate_left
    · simp only [Act.put, List.setIfInBounds_toArray, List.set_cons_zero, List.set_cons_succ, i64_w, i32_w]
      rfl
    refine pure_ (i := 3) (N := some 48) (v := ?_) (a' := ?_) #[true, true, true, true, false, false, false, false, false, false, false, false, false, false, false, false, false, false, false, false, false, false, false, false, false, false, false, false, false, false, false, false] rfl rfl (by kernel_rfl) (fun _ _ _ h => h) (Or.inl ⟨by rfl, ?_⟩) ?_ ?_
    rotate_left
    · intro w'
      go_simp
      with_reducible rfl
    rotate_left
    · simp only [Act.put, List.setIfInBounds_toArray, List.set_cons_zero, List.set_cons_succ, i64_w, i32_w]
      rfl
    refine take_ (i := 4) (N := some 49) (v := ?_) (a' := ?_) #[true, true, true, true, true, false, false, false, false, false, false, false, false, false, false, false, false, false, false, false, false, false, false, false, false, false, false, false, false, false, false, false] rfl rfl (by kernel_rfl) (fun _ _ _ h => h) (Or.inl ⟨by rfl, ?_⟩) hHeld ?_ ?_
    rotate_left
    · rintro w' ⟨s0, s1, s2, s3, s4, s5, s6⟩
      go_simp
      with_reducible rfl
    rotate_left
    · simp only [Act.put, List.setIfInBounds_toArray, List.set_cons_zero, List.set_cons_succ, i64_w, i32_w]
      rfl
    refine pure_ (i := 5) (N := some 50) (v := ?_) (a' := ?_) #[true, true, true, true, true, true, false, false, false, false, false, false, false, false, false, false, false, false, false, false, false, false, false, false, false, false, false, false, false, false, false, false] rfl rfl (by kernel_rfl) (fun _ _ _ h => h) (Or.inl ⟨by rfl, ?_⟩) ?_ ?_
    rotate_left
    · intro w'
      go_simp
      with_reducible rfl
    rotate_left
    · simp only [Act.put, List.setIfInBounds_toArray, List.set_cons_zero, List.set_cons_succ, i64_w, i32_w]
      rfl
    refine pure_ (i := 6) (N := some 51) (v := ?_) (a' := ?_) #[true, true, true, true, true, true, true, false, false, false, false, false, false, false, false, false, false, false, false, false, false, false, false, false, false, false, false, false, false, false, false, false] rfl rfl (by kernel_rfl) (fun _ _ _ h => h) (Or.inl ⟨by rfl, ?_⟩) ?_ ?_
    rotate_left
    · intro w'
      go_simp
      with_reducible rfl
    rotate_left
    · simp only [Act.put, List.setIfInBounds_toArray, List.set_cons_zero, List.set_cons_succ, i64_w, i32_w]
      rfl
    refine pure_ (i := 7) (N := some 52) (v := ?_) (a' := ?_) #[true, true, true, true, true, true, true, true, false, false, false, false, false, false, false, false, false, false, false, false, false, false, false, false, false, false, false, false, false, false, false, false] rfl rfl (by kernel_rfl) (fun _ _ _ h => h) (Or.inl ⟨by rfl, ?_⟩) ?_ ?_
    rotate_left
    · intro w'
      go_simp
      with_reducible rfl
    rotate_left
    · simp only [Act.put, List.setIfInBounds_toArray, List.set_cons_zero, List.set_cons_succ, i64_w, i32_w]
      rfl
    refine pure_ (i := 8) (N := some 53) (v := ?_) (a' := ?_) #[true, true, true, true, true, true, true, true, true, false, false, false, false, false, false, false, false, false, false, false, false, false, false, false, false, false, false, false, false, false, false, false] rfl rfl (by kernel_rfl) (fun _ _ _ h => h) (Or.inl ⟨by rfl, ?_⟩) ?_ ?_
    rotate_left
    · intro w'
      go_simp
      with_reducible rfl
    rotate_left
    · simp only [Act.put, List.setIfInBounds_toArray, List.set_cons_zero, List.set_cons_succ, i64_w, i32_w]
      rfl
    refine take_ (i := 10) (N := some 55) (v := ?_) (a' := ?_) #[true, true, true, true, true, true, true, true, true, false, true, false, false, false, false, false, false, false, false, false, false, false, false, false, false, false, false, false, false, false, false, false] rfl rfl (by kernel_rfl) (fun _ _ _ h => h) (Or.inl ⟨by rfl, ?_⟩) hHeld ?_ ?_
    rotate_left
    · rintro w' ⟨s0, s1, s2, s3, s4, s5, s6⟩
      go_simp
      with_reducible rfl
    rotate_left
    · simp only [Act.put, List.setIfInBounds_toArray, List.set_cons_zero, List.set_cons_succ, i64_w, i32_w]
      rfl
    refine one_ (i := 9) (N := some 54) #[true, true, true, true, true, true, true, true, true, true, true, false, false, false, false, false, false, false, false, false, false, false, false, false, false, false, false, false, false, false, false, false] rfl rfl (by kernel_rfl) (by decide) (fun K hK => ?_)
    refine goes_ Try.func13 (by kernel_rfl) rfl #[.pointer (some ⟨gm, 0, none⟩)] (by rfl) rfl rfl (by simp only [List.map_toArray, List.map_cons, List.map_nil]; rfl) ?_
    with_reducible refine (Len_I _ _ _ _ _ _ _ _ _ hMd.out).mono ?_
    rintro e w5 ⟨rfl, rfl⟩
    refine ⟨_, rfl, ?_⟩
    refine hK.out _ _ ⟨hHeld.1, hHeld.2.1, hHeld.2.2.1, hHeld.2.2.2.1, hHeld.2.2.2.2.1, hHeld.2.2.2.2.2.1, hHeld.2.2.2.2.2.2⟩ (fun hHeld => ?_)
    clear hK K
    refine norm_ (a' := ?_) ?_ ?_
    rotate_left
    · show Act.put _ (some 54) _ = _
      simp only [Act.put, List.setIfInBounds_toArray, List.set_cons_zero, List.set_cons_succ, i64_w, i32_w]
      rfl
    refine pure_ (i := 11) (N := some 56) (v := ?_) (a' := ?_) #[true, true, true, true, true, true, true, true, true, true, true, true, false, false, false, false, false, false, false, false, false, false, false, false, false, false, false, false, false, false, false, false] rfl rfl (by kernel_rfl) (fun _ _ _ h => h) (Or.inl ⟨by rfl, ?_⟩) ?_ ?_
    rotate_left
    · intro w'
      go_simp
      with_reducible rfl
    rotate_left
    · simp only [Act.put, List.setIfInBounds_toArray, List.set_cons_zero, List.set_cons_succ, i64_w, i32_w]
      rfl
    refine pure_ (i := 12) (N := some 57) (v := ?_) (a' := ?_) #[true, true, true, true, true, true, true, true, true, true, true, true, true, false, false, false, false, false, false, false, false, false, false, false, false, false, false, false, false, false, false, false] rfl rfl (by kernel_rfl) (fun _ _ _ h => h) (Or.inl ⟨by rfl, ?_⟩) ?_ ?_
    rotate_left
    · intro w'
      go_simp
      with_reducible rfl
    rotate_left
    · simp only [Act.put, List.setIfInBounds_toArray, List.set_cons_zero, List.set_cons_succ, i64_w, i32_w]
      rfl
    refine pure_ (i := 13) (N := some 58) (v := ?_) (a' := ?_) #[true, true, true, true, true, true, true, true, true, true, true, true, true, true, false, false, false, false, false, false, false, false, false, false, false, false, false, false, false, false, false, false] rfl rfl (by kernel_rfl) (fun _ _ _ h => h) (Or.inl ⟨by rfl, ?_⟩) ?_ ?_
    rotate_left
    · intro w'
      go_simp
      with_reducible rfl
    rotate_left
    · simp only [Act.put, List.setIfInBounds_toArray, List.set_cons_zero, List.set_cons_succ, i64_w, i32_w]
      rfl
    refine pure_ (i := 14) (N := some 59) (v := ?_) (a' := ?_) #[true, true, true, true, true, true, true, true, true, true, true, true, true, true, true, false, false, false, false, false, false, false, false, false, false, false, false, false, false, false, false, false] rfl rfl (by kernel_rfl) (fun _ _ _ h => h) (Or.inl ⟨by rfl, ?_⟩) ?_ ?_
    rotate_left
    · intro w'
      go_simp
      with_reducible rfl
    rotate_left
    · simp only [Act.put, List.setIfInBounds_toArray, List.set_cons_zero, List.set_cons_succ, i64_w, i32_w]
      rfl
    refine take_ (i := 16) (N := some 61) (v := ?_) (a' := ?_) #[true, true, true, true, true, true, true, true, true, true, true, true, true, true, true, false, true, false, false, false, false, false, false, false, false, false, false, false, false, false, false, false] rfl rfl (by kernel_rfl) (fun _ _ _ h => h) (Or.inl ⟨by rfl, ?_⟩) hHeld ?_ ?_
    rotate_left
    · rintro w' ⟨s0, s1, s2, s3, s4, s5, s6⟩
      go_simp
      with_reducible rfl
    rotate_left
    · simp only [Act.put, List.setIfInBounds_toArray, List.set_cons_zero, List.set_cons_succ, i64_w, i32_w]
      rfl
    refine pure_ (i := 17) (N := some 62) (v := ?_) (a' := ?_) #[true, true, true, true, true, true, true, true, true, true, true, true, true, true, true, false, true, true, false, false, false, false, false, false, false, false, false, false, false, false, false, false] rfl rfl (by kernel_rfl) (fun _ _ _ h => h) (Or.inl ⟨by rfl, ?_⟩) ?_ ?_
    rotate_left
    · intro w'
      go_simp
      with_reducible rfl
    rotate_left
    · simp only [Act.put, List.setIfInBounds_toArray, List.set_cons_zero, List.set_cons_succ, i64_w, i32_w]
      rfl
    refine pure_ (i := 18) (N := some 63) (v := ?_) (a' := ?_) #[true, true, true, true, true, true, true, true, true, true, true, true, true, true, true, false, true, true, true, false, false, false, false, false, false, false, false, false, false, false, false, false] rfl rfl (by kernel_rfl) (fun _ _ _ h => h) (Or.inl ⟨by rfl, ?_⟩) ?_ ?_
    rotate_left
    · intro w'
      go_simp
      with_reducible rfl
    rotate_left
    · simp only [Act.put, List.setIfInBounds_toArray, List.set_cons_zero, List.set_cons_succ, i64_w, i32_w]
      rfl
    refine take_ (i := 19) (N := some 64) (v := ?_) (a' := ?_) #[true, true, true, true, true, true, true, true, true, true, true, true, true, true, true, false, true, true, true, true, false, false, false, false, false, false, false, false, false, false, false, false] rfl rfl (by kernel_rfl) (fun _ _ _ h => h) (Or.inl ⟨by rfl, ?_⟩) hHeld ?_ ?_
    rotate_left
    · rintro w' ⟨s0, s1, s2, s3, s4, s5, s6⟩
      go_simp
      with_reducible rfl
    rotate_left
    · simp only [Act.put, List.setIfInBounds_toArray, List.set_cons_zero, List.set_cons_succ, i64_w, i32_w]
      rfl
    refine one_ (i := 15) (N := some 60) #[true, true, true, true, true, true, true, true, true, true, true, true, true, true, true, true, true, true, true, true, false, false, false, false, false, false, false, false, false, false, false, false] rfl rfl (by kernel_rfl) (by decide) (fun K hK => ?_)
    refine goes_ Try.func36 (by kernel_rfl) rfl #[.pointer (some ⟨gm, 0, none⟩)] (by rfl) rfl rfl (by simp only [List.map_toArray, List.map_cons, List.map_nil]; rfl) ?_
    with_reducible refine (Most_I _ _ _ _ _ _ _ _ _ hMd.out).mono ?_
    rintro e w6 ⟨rfl, rfl⟩
    refine ⟨_, rfl, ?_⟩
    refine hK.out _ _ ⟨hHeld.1, hHeld.2.1, hHeld.2.2.1, hHeld.2.2.2.1, hHeld.2.2.2.2.1, hHeld.2.2.2.2.2.1, hHeld.2.2.2.2.2.2⟩ (fun hHeld => ?_)
    clear hK K
    refine norm_ (a' := ?_) ?_ ?_
    rotate_left
    · show Act.put _ (some 60) _ = _
      simp only [Act.put, List.setIfInBounds_toArray, List.set_cons_zero, List.set_cons_succ, i64_w, i32_w]
      rfl
    refine pure_ (i := 20) (N := some 65) (v := ?_) (a' := ?_) #[true, true, true, true, true, true, true, true, true, true, true, true, true, true, true, true, true, true, true, true, true, false, false, false, false, false, false, false, false, false, false, false] rfl rfl (by kernel_rfl) (fun _ _ _ h => h) (Or.inl ⟨by rfl, ?_⟩) ?_ ?_
    rotate_left
    · intro w'
      go_simp
      with_reducible rfl
    rotate_left
    · simp only [Act.put, List.setIfInBounds_toArray, List.set_cons_zero, List.set_cons_succ, i64_w, i32_w]
      rfl
    refine pure_ (i := 21) (N := some 66) (v := ?_) (a' := ?_) #[true, true, true, true, true, true, true, true, true, true, true, true, true, true, true, true, true, true, true, true, true, true, false, false, false, false, false, false, false, false, false, false] rfl rfl (by kernel_rfl) (fun _ _ _ h => h) (Or.inl ⟨by rfl, ?_⟩) ?_ ?_
    rotate_left
    · intro w'
      go_simp
      with_reducible rfl
    rotate_left
    · simp only [Act.put, List.setIfInBounds_toArray, List.set_cons_zero, List.set_cons_succ, i64_w, i32_w]
      rfl
    refine pure_ (i := 22) (N := some 67) (v := ?_) (a' := ?_) #[true, true, true, true, true, true, true, true, true, true, true, true, true, true, true, true, true, true, true, true, true, true, true, false, false, false, false, false, false, false, false, false] rfl rfl (by kernel_rfl) (fun _ _ _ h => h) (Or.inl ⟨by rfl, ?_⟩) ?_ ?_
    rotate_left
    · intro w'
      go_simp
      with_reducible rfl
    rotate_left
    · simp only [Act.put, List.setIfInBounds_toArray, List.set_cons_zero, List.set_cons_succ, i64_w, i32_w]
      rfl
    refine pure_ (i := 23) (N := some 68) (v := ?_) (a' := ?_) #[true, true, true, true, true, true, true, true, true, true, true, true, true, true, true, true, true, true, true, true, true, true, true, true, false, false, false, false, false, false, false, false] rfl rfl (by kernel_rfl) (fun _ _ _ h => h) (Or.inl ⟨by rfl, ?_⟩) ?_ ?_
    rotate_left
    · intro w'
      go_simp
      with_reducible rfl
    rotate_left
    · simp only [Act.put, List.setIfInBounds_toArray, List.set_cons_zero, List.set_cons_succ, i64_w, i32_w]
      rfl
    refine take_ (i := 25) (N := some 70) (v := ?_) (a' := ?_) #[true, true, true, true, true, true, true, true, true, true, true, true, true, true, true, true, true, true, true, true, true, true, true, true, false, true, false, false, false, false, false, false] rfl rfl (by kernel_rfl) (fun _ _ _ h => h) (Or.inl ⟨by rfl, ?_⟩) hHeld ?_ ?_
    rotate_left
    · rintro w' ⟨s0, s1, s2, s3, s4, s5, s6⟩
      go_simp
      with_reducible rfl
    rotate_left
    · simp only [Act.put, List.setIfInBounds_toArray, List.set_cons_zero, List.set_cons_succ, i64_w, i32_w]
      rfl
    refine pure_ (i := 26) (N := some 71) (v := ?_) (a' := ?_) #[true, true, true, true, true, true, true, true, true, true, true, true, true, true, true, true, true, true, true, true, true, true, true, true, false, true, true, false, false, false, false, false] rfl rfl (by kernel_rfl) (fun _ _ _ h => h) (Or.inl ⟨by rfl, ?_⟩) ?_ ?_
    rotate_left
    · intro w'
      go_simp
      with_reducible rfl
    rotate_left
    · simp only [Act.put, List.setIfInBounds_toArray, List.set_cons_zero, List.set_cons_succ, i64_w, i32_w]
      rfl
    refine pure_ (i := 27) (N := some 72) (v := ?_) (a' := ?_) #[true, true, true, true, true, true, true, true, true, true, true, true, true, true, true, true, true, true, true, true, true, true, true, true, false, true, true, true, false, false, false, false] rfl rfl (by kernel_rfl) (fun _ _ _ h => h) (Or.inl ⟨by rfl, ?_⟩) ?_ ?_
    rotate_left
    · intro w'
      go_simp
      with_reducible rfl
    rotate_left
    · simp only [Act.put, List.setIfInBounds_toArray, List.set_cons_zero, List.set_cons_succ, i64_w, i32_w]
      rfl
    refine take_ (i := 28) (N := some 73) (v := ?_) (a' := ?_) #[true, true, true, true, true, true, true, true, true, true, true, true, true, true, true, true, true, true, true, true, true, true, true, true, false, true, true, true, true, false, false, false] rfl rfl (by kernel_rfl) (fun _ _ _ h => h) (Or.inl ⟨by rfl, ?_⟩) hHeld ?_ ?_
    rotate_left
    · rintro w' ⟨s0, s1, s2, s3, s4, s5, s6⟩
      go_simp
      with_reducible rfl
    rotate_left
    · simp only [Act.put, List.setIfInBounds_toArray, List.set_cons_zero, List.set_cons_succ, i64_w, i32_w]
      rfl
    refine one_ (i := 24) (N := some 69) #[true, true, true, true, true, true, true, true, true, true, true, true, true, true, true, true, true, true, true, true, true, true, true, true, true, true, true, true, true, false, false, false] rfl rfl (by kernel_rfl) (by decide) (fun K hK => ?_)
    refine goes_ Try.func16 (by kernel_rfl) rfl #[.pointer (some ⟨gm, 0, none⟩)] (by rfl) rfl rfl (by simp only [List.map_toArray, List.map_cons, List.map_nil]; rfl) ?_
    with_reducible refine (Uses_I _ _ _ _ _ _ _ _ _ hMd.out).mono ?_
    rintro e w7 ⟨rfl, hb7⟩
    refine ⟨_, rfl, ?_⟩
    have c7 := pw_cell_below hb7 ybr
    have f7 := blk_frozen (blk_below (show W.drew.heap[br]? = some (.cells #[.bool false] 4 (0, 0)) from hbr.out) hb7) 0
    refine hK.out _ _ ⟨pw_cell_below hb7 hHeld.1, pw_cell_below hb7 hHeld.2.1, pw_cell_below hb7 hHeld.2.2.1, pw_cell_below hb7 hHeld.2.2.2.1, pw_cell_below hb7 hHeld.2.2.2.2.1, pw_cell_below hb7 hHeld.2.2.2.2.2.1, pw_cell_below hb7 hHeld.2.2.2.2.2.2⟩ (fun hHeld => ?_)
    clear hK K
    refine norm_ (a' := ?_) ?_ ?_
    rotate_left
    · show Act.put _ (some 69) _ = _
      simp only [Act.put, List.setIfInBounds_toArray, List.set_cons_zero, List.set_cons_succ, i64_w, i32_w]
      rfl
    refine pure_ (i := 29) (N := some 74) (v := ?_) (a' := ?_) #[true, true, true, true, true, true, true, true, true, true, true, true, true, true, true, true, true, true, true, true, true, true, true, true, true, true, true, true, true, true, false, false] rfl rfl (by kernel_rfl) (fun _ _ _ h => h) (Or.inl ⟨by rfl, ?_⟩) ?_ ?_
    rotate_left
    · intro w'
      go_simp
      with_reducible rfl
    rotate_left
    · simp only [Act.put, List.setIfInBounds_toArray, List.set_cons_zero, List.set_cons_succ, i64_w, i32_w]
      rfl
    refine pure_ (i := 30) (N := some 75) (v := ?_) (a' := ?_) #[true, true, true, true, true, true, true, true, true, true, true, true, true, true, true, true, true, true, true, true, true, true, true, true, true, true, true, true, true, true, true, false] rfl rfl (by kernel_rfl) (fun _ _ _ h => h) (Or.inl ⟨by rfl, ?_⟩) ?_ ?_
    rotate_left
    · intro w'
      go_simp
      with_reducible rfl
    rotate_left
    · simp only [Act.put, List.setIfInBounds_toArray, List.set_cons_zero, List.set_cons_succ, i64_w, i32_w]
      rfl
    refine last_ (i := 31) (N := none) #[true, true, true, true, true, true, true, true, true, true, true, true, true, true, true, true, true, true, true, true, true, true, true, true, true, true, true, true, true, true, true, true] rfl rfl (by kernel_rfl) (by decide) (fun K hK => ?_)
    refine skip_ (w1 := ?_) (by rfl) rfl ?_ ?_
    rotate_left
    · go_simp
      rfl
    refine hK.out _ _ ?_
    clear hK K
    refine done_ (by kernel_rfl) ?_
    refine OnlyN.mk ?_
    clear hHeld
    have hK0 : (w7.setCell ⟨br, 0, none⟩ (.bool true)).heap[D]? = some (.deferred (some [])) :=
      (KeepsOthers.setCell w7 ⟨br, 0, none⟩ _).same D _ ((hb7.block D (show D < W.drew.heap.size from hDl)).trans (show W.drew.heap[D]? = _ from hK.out)) rfl
    have hD7 : D < (w7.setCell ⟨br, 0, none⟩ (.bool true)).heap.size := (Array.getElem?_eq_some_iff.1 hK0).1
    gi_wp2
    have hBe : Below W0.heap.size W0 w7 := hBel.out.drew.trans (hb7.mono hBel.out.size)
    refine ⟨by simp, .inl ⟨_, _, rfl, run_takeDeferred hK0, ?_⟩⟩
    have hc5 := cell_kept (World.cell?_setCell_same' w7 ⟨br, 0, none⟩ (.bool true) (by rw [c7]; rfl)) (grownBy_putObj' _ D (.deferred none)) (fun r e => by cases e; exact ⟨_, hK0, rfl⟩)
    refine ⟨.bool true, ?_, rfl, (hBe.setCell (p := ⟨br, 0, none⟩) hbr1 _).trans ⟨rfl, rfl, rfl, by simp, fun k hk => World.putObj_heap_other (by omega)⟩⟩
    simp [results, Try.f20, go_sem, hc5]
  case stop =>
    rintro D c pre W hD hSp hIx hK
    exact absurd hSp hIx
end Go.Proofs.Ytecgbhiebaiokaa.G

/- What LruOwn needs beside: Resize whatever the number, lists of the call's own beside both memos. -/
namespace Go.Proofs.Ytecgbhiebaiokaa.G
open Go.RowKit Go.Proofs.YtecgbhiebaiokaaW.PrintWords Go.Proofs.YtecgbhiebaiokaaW.PrintLast Go.Proofs.YtecgbhiebaiokaaW.PrintMore
set_option linter.unusedSimpArgs false
set_option linter.unusedVariables false
section
variable {ops : Array Oper} {rest : List Oper} {o : Oper} {a : Act} {Q : Exit → Act → World → Prop}
/-- append(v, ys...), v of the call's own -/
theorem appR {w0 W : World} {B : Nat} (hgd : o.guard = none) (s x : Operand) (ho : o.op = .call { callee := .builtin .append, args := #[s, x], argTypes := #[28, 28] })
    (v : Value) (xs ys : List Int) (A : Option Addr) (c : Nat) (hs : a.eval s = v) (hx : a.eval x = .slice A ys.length c)
    (HO : Hid (Own W B v xs)) (HR : Hid (KeysRd W A ys)) (HB : Hid (Below B w0 W)) (hbase : B ≤ W.heap.size) (hl : (xs.length + ys.length) * 8 ≤ 140737488355328)
    (h : ∀ v1 w1, Hid (Own w1 B v1 (xs ++ ys)) → Hid (Below B w0 w1) → Hid (W.grownBy w1 v.ownBlock) → wpList Try.prog ops Q rest (a.put o.dst v1) w1) :
    wpList Try.prog ops Q (o :: rest) a W :=
  print_append_row B hgd s x 28 3 .i64 8 ho Try.underlying28 info3 (by omega) v xs ys A ys.length c hs hx HO.out HR.out HB.out hbase hl (fun v1 w1 h1 h2 h3 _ => h v1 w1 h1 h2 h3)
end
theorem reads_lit (W : World) (l : List Int) (hl : l.length ≤ 9223372036854775807) : KeysRd (W.alloc (.cells (nums .i64 l).toArray 3)) (some ⟨W.heap.size, 0, none⟩) l := own_reads' (own_lit W 0 3 .i64 l (Nat.zero_le _) hl)
def rzBad (n : Int) : Bool := decide (n < 1) || decide (4096 < n)
def rzN (n : Int) (a : Nat) : Nat := if rzBad n then a else n.toNat
def rzGone (n : Int) (M : KV) : List Int := if rzBad n then [] else kvGone n.toNat M
def rzTake (n : Int) (M : KV) : KV := if rzBad n then M else M.take n.toNat
def rzG (n : Int) (l : Nat) : Int := if rzBad n then 0 else (l - n.toNat : Nat)
theorem rzBad_no {n : Int} (h : ¬ (n < 1 ∨ 4096 < n)) : rzBad n = false := by simp [rzBad]; omega
theorem rzBad_yes {n : Int} (h : n < 1 ∨ 4096 < n) : rzBad n = true := by simp [rzBad]; omega
theorem Resize_any (w : World) (B gm gb a : Nat) (h m g : Int) (L : List (Ent Int)) (n : Int) (hM : Memo ktI w B gm gb a h m g L) (hB : B ≤ w.heap.size) (hg : g + 4096 ≤ 1152921504606846976) :
    Calls Try.prog 15 #[.pointer (some ⟨gm, 0, none⟩), .int .i64 n] w fun e w' => ∃ v er, e = .returned (.tuple #[v, .int .i64 er]) ∧ Own w' w.heap.size v (rzGone n (kv L)) ∧ ∃ L', Step w w' B gm gb (rzN n a) h m (g + rzG n L.length) L L' (rzTake n (kv L)) := by
  by_cases hn : n < 1 ∨ 4096 < n
  · refine (Resize_bad w B gm gb a h m g L n hM hn).mono ?_
    rintro e w' ⟨rfl, rfl⟩
    refine ⟨_, _, rfl, ?_, L, ?_⟩
    · simp only [rzGone, rzBad_yes hn, if_true]
      exact own_nil _ _ _ _
    · simp only [rzN, rzG, rzTake, rzBad_yes hn, if_true, Int.add_zero]
      exact Step.refl hM
  · obtain ⟨k, rfl⟩ : ∃ k : Nat, n = k := ⟨n.toNat, by omega⟩
    refine (Resize_kv w B gm gb a h m g L k hM hB (by omega) (by omega) hg).mono ?_
    rintro e w' ⟨v, rfl, ho, L', hs⟩
    refine ⟨v, 0, rfl, ?_, L', ?_⟩
    · simpa [rzGone, rzBad_no hn] using ho
    · simpa [rzN, rzG, rzTake, rzBad_no hn] using hs
theorem RResize_any (w : World) (B gq a : Nat) (h m g : Int) (v : Value) (M : KV) (n : Int) (r : RM w B gq a h m g v M) (hB : B ≤ w.heap.size) (hg0 : 0 ≤ g) (hg : g + 8192 ≤ 1152921504606846976) :
    Calls Try.prog 22 #[.pointer (some ⟨gq, 0, none⟩), .int .i64 n] w fun e w' => ∃ v1 er, e = .returned (.tuple #[v1, .int .i64 er]) ∧ Own w' w.heap.size v1 (rzGone n M) ∧ ∃ v', RM w' B gq (rzN n a) h m (g + rzG n M.length) v' (rzTake n M) ∧ Chg w w' (fun q => q = gq) := by
  by_cases hn : n < 1 ∨ 4096 < n
  · refine (RResize_bad w gq n hn).mono ?_
    rintro e w' ⟨rfl, rfl⟩
    refine ⟨_, _, rfl, ?_, v, ?_, Chg.refl _ _⟩
    · simp only [rzGone, rzBad_yes hn, if_true]
      exact own_nil _ _ _ _
    · simp only [rzN, rzG, rzTake, rzBad_yes hn, if_true, Int.add_zero]
      exact r
  · obtain ⟨k, rfl⟩ : ∃ k : Nat, n = k := ⟨n.toNat, by omega⟩
    refine (RResize_calls w B gq a h m g v M k r hB (by omega) (by omega) hg0 hg).mono ?_
    rintro e w' ⟨v1, rfl, ho, v', r', hc⟩
    refine ⟨v1, 0, rfl, ?_, v', ?_, hc⟩
    · simpa [rzGone, rzBad_no hn] using ho
    · simpa [rzN, rzG, rzTake, rzBad_no hn] using r'
theorem rzGone_len (n : Int) (M : KV) : (rzGone n M).length ≤ M.length := by
  unfold rzGone
  split
  · simp
  · rw [kvGone_len]
    omega
/-- a list of the call's own is written: both memos stand -/
theorem Both.own {w0 W W1 : World} {gm gb gq n : Nat} {h m g : Int} {L : List (Ent Int)} {v V : Value} {B : Nat} {l : List Int} (b : Both w0 W gm gb gq n h m g L v) (ho : Own W B V l) (hB : w0.heap.size ≤ B) (hg : W.grownBy W1 V.ownBlock) : Both w0 W1 gm gb gq n h m g L v :=
  ⟨b.me.chg (Chg.of_grown hg) (fun q hq he => ho.apart b.me q hq he.symm), b.r.growI ho hg, b.bel.trans ((Chg.of_grown hg).below b.bel.size (fun q hq => Nat.le_trans hB (own_base ho q hq.symm)))⟩
/-- and another list, older -/
theorem Own.older {W W1 : World} {B B' : Nat} {v V : Value} {l r : List Int} (o : Own W B v r) (hg : W.grownBy W1 V.ownBlock) (ho : Own W B' V l) (hv : ∀ k, v.ownBlock = some k → k < B') : Own W1 B v r :=
  o.chg (Chg.of_grown hg) (fun k hk he => by have := own_base ho k he.symm; have := hv k hk; omega)
theorem Own.drewN {W : World} {B : Nat} {v : Value} {r : List Int} (o : Own W B v r) (k : Nat) : Own (W.drewN k) B v r := o
end Go.Proofs.Ytecgbhiebaiokaa.G

/- The walk of the law LruOwn. -/
namespace Go.Proofs.Ytecgbhiebaiokaa.G
open Go.RowKit Go.Proofs.YtecgbhiebaiokaaW.PrintWords Go.Proofs.YtecgbhiebaiokaaW.PrintLast Go.Proofs.YtecgbhiebaiokaaW.PrintMore
set_option linter.unusedSimpArgs false
set_option linter.unusedVariables false
theorem own_pre {w : World} {B n c : Nat} {A : Option Addr} {l r : List Int} (h : Own w B (.slice A n c) (l ++ r)) : KeysRd w A l := by
  obtain ⟨A', c', he, hr⟩ := own_rd h
  injection he with hA
  subst hA
  have hll : (l ++ r).length = l.length + r.length := List.length_append
  refine ⟨rfl, by have := hr.2.1; omega, fun hp => ?_⟩
  obtain ⟨ad, e, hc⟩ := hr.2.2 (by omega)
  refine ⟨ad, e, fun j hj => ?_⟩
  rw [hc j (by omega), List.getD_eq_getElem?_getD, List.getElem?_append_left hj, ← List.getD_eq_getElem?_getD]
theorem own_rd2 {w : World} {B : Nat} {v : Value} {l : List Int} (h : Own w B v l) : ∃ A c, v = .slice A l.length c ∧ KeysRd w A l ∧ l.length ≤ c := by
  obtain ⟨A, c, rfl, hr⟩ := own_rd h
  exact ⟨A, c, rfl, hr, own_le h⟩
theorem own_rdA {w : World} {B n c : Nat} {A : Option Addr} {l : List Int} (h : Own w B (.slice A n c) l) : KeysRd w A l := by
  obtain ⟨A', c', he, hr⟩ := own_rd h
  injection he with hA
  subst hA
  exact hr
theorem own_frm {w : World} {B n c : Nat} {A : Option Addr} {l : List Int} (h : Own w B (.slice A n c) l) (hp : 0 < l.length) : ∃ g, A = some ⟨g, 0, none⟩ := by
  obtain ⟨-, ⟨he, hn⟩ | ⟨g, cap, cur, he, -⟩⟩ := h
  · omega
  · injection he with hA
    exact ⟨g, hA⟩
theorem own_cel {w : World} {B n c g : Nat} {l : List Int} (h : Own w B (.slice (some ⟨g, 0, none⟩) n c) l) (hn : n = l.length) (j : Nat) (hj : j < l.length) : w.cell? ⟨g, j, none⟩ = some (.int .i64 (l.getD j 0)) ∧ w.frozen? ⟨g, j, none⟩ = false := by
  subst hn
  exact own_at h (j : Int) (by omega) (by omega)
theorem own_put {w : World} {B n c g : Nat} {l : List Int} (h : Own w B (.slice (some ⟨g, 0, none⟩) n c) l) (hn : n = l.length) (j : Nat) (x : Int) : Own (w.setCell ⟨g, j, none⟩ (.int .i64 x)) B (.slice (some ⟨g, 0, none⟩) n c) (l.set j x) ∧ w.grownBy (w.setCell ⟨g, j, none⟩ (.int .i64 x)) (Value.ownBlock (.slice (some ⟨g, 0, none⟩) n c)) := by
  subst hn
  have := own_store h (j : Int) x
  refine ⟨?_, this.2⟩
  have h1 := this.1
  unfold Own
  rw [List.length_set]
  exact h1
theorem getD_app {l : List Int} {a b : Int} : (l ++ [a, b]).getD l.length 0 = a ∧ (l ++ [a, b]).getD (l.length + 1) 0 = b := by
  constructor <;> simp [List.getD_eq_getElem?_getD]
variable (w : World)
set_option maxRecDepth 100000 in
set_option maxHeartbeats 8000000 in
theorem LruOwn_good (a : Nat) (less : Int) (A1 : Option Addr) (c1 : Nat) (ps : List ActL) (x3 x4 : Value) (A2 : Option Addr) (c2 : Nat) (keys : List Int) (ha1 : 1 ≤ a) (ha2 : a ≤ 4096) (hr : ActsRd w A1 ps) (hlen2 : ps.length ≤ 100000000000000) (hk : KeysRd w A2 keys) (hki : ∀ x ∈ keys, InI x) (hkl : (keys.length + 2) * 8 ≤ 140737488355328) :
    Calls Try.prog 7 #[.agg #[.int .i64 a, .int .i64 less, .slice A1 ps.length c1, x3, x4, .slice A2 keys.length c2]] w fun e w' => e = .returned (.bool true) ∧ Below w.heap.size w w' := by
  have HR := Lib.hid hr
  have hlen := hr.1
  have HK := Lib.hid hk
  have HI := Lib.hid hki
  clear hr hk hki
  go_enter Try.func7, Try.ntmps7
  go_wp2_with fail
  have hac := heap_alloc_new w (.cells #[.int .i64 a, .int .i64 less, .slice A1 ps.length c1, x3, x4, .slice A2 keys.length c2] 44)
  have hb0 := below_alloc (Below.refl _ w) (.cells #[.int .i64 a, .int .i64 less, .slice A1 ps.length c1, x3, x4, .slice A2 keys.length c2] 44)
  obtain ⟨W, hW⟩ : ∃ W, W = w.alloc (.cells #[.int .i64 a, .int .i64 less, .slice A1 ps.length c1, x3, x4, .slice A2 keys.length c2] 44) := ⟨_, rfl⟩
  obtain ⟨gx, hgx⟩ : ∃ gx, gx = w.heap.size := ⟨_, rfl⟩
  rw [← hW, ← hgx] at hac
  rw [← hW] at hb0 ⊢
  rw [← hgx]
  have z0 := blk_cell hac 0
  have z1 := blk_cell hac 1
  have z2 := blk_cell hac 2
  have z5 := blk_cell hac 5
  simp only [List.getElem?_toArray, List.getElem?_cons_zero, List.getElem?_cons_succ] at z0 z1 z2 z5
  replace hb0 := Lib.hid hb0
  clear hW hac hgx
  refine start_ (n := 12) (S := fun w' => w'.cell? ⟨gx, 0, none⟩ = some (.int .i64 a) ∧ w'.cell? ⟨gx, 1, none⟩ = some (.int .i64 less) ∧ w'.cell? ⟨gx, 2, none⟩ = some (.slice A1 ps.length c1) ∧ w'.cell? ⟨gx, 5, none⟩ = some (.slice A2 keys.length c2)) (ds := []) #[false, false, false, false, false, false, false, false, false, false, false, false] (by kernel_rfl) rfl rfl ⟨z0, z1, z2, z5⟩ (fun hHeld => ?_)
  refine pure_ (i := 0) (N := some 20) (v := ?_) (a' := ?_) #[true, false, false, false, false, false, false, false, false, false, false, false] rfl rfl (by kernel_rfl) (fun _ _ _ h => h) (Or.inl ⟨by rfl, ?_⟩) ?_ ?_
  rotate_left
  · intro w'
    go_simp
    with_reducible rfl
  rotate_left
  · simp only [Act.put, List.setIfInBounds_toArray, List.set_cons_zero, List.set_cons_succ, i64_w, i32_w]
    rfl
  refine pure_ (i := 2) (N := some 22) (v := ?_) (a' := ?_) #[true, false, true, false, false, false, false, false, false, false, false, false] rfl rfl (by kernel_rfl) (fun _ _ _ h => h) (Or.inl ⟨by rfl, ?_⟩) ?_ ?_
  rotate_left
  · intro w'
    go_simp
    with_reducible rfl
  rotate_left
  · simp only [Act.put, List.setIfInBounds_toArray, List.set_cons_zero, List.set_cons_succ, i64_w, i32_w]
    rfl
  refine pure_ (i := 4) (N := some 24) (v := ?_) (a' := ?_) #[true, false, true, false, true, false, false, false, false, false, false, false] rfl rfl (by kernel_rfl) (fun _ _ _ h => h) (Or.inl ⟨by rfl, ?_⟩) ?_ ?_
  rotate_left
  · intro w'
    go_simp
    with_reducible rfl
  rotate_left
  · simp only [Act.put, List.setIfInBounds_toArray, List.set_cons_zero, List.set_cons_succ, i64_w, i32_w]
    rfl
  refine pure_ (i := 6) (N := some 26) (v := ?_) (a' := ?_) #[true, false, true, false, true, false, true, false, false, false, false, false] rfl rfl (by kernel_rfl) (fun _ _ _ h => h) (Or.inl ⟨by rfl, ?_⟩) ?_ ?_
  rotate_left
  · intro w'
    go_simp
    with_reducible rfl
  rotate_left
  · simp only [Act.put, List.setIfInBounds_toArray, List.set_cons_zero, List.set_cons_succ, i64_w, i32_w]
    rfl
  refine take_ (i := 1) (N := some 21) (v := ?_) (a' := ?_) #[true, true, true, false, true, false, true, false, false, false, false, false] rfl rfl (by kernel_rfl) (fun _ _ _ h => h) (Or.inl ⟨by rfl, ?_⟩) hHeld ?_ ?_
  rotate_left
  · rintro w' ⟨s0, s1, s2, s3⟩
    go_simp
    with_reducible rfl
  rotate_left
  · simp only [Act.put, List.setIfInBounds_toArray, List.set_cons_zero, List.set_cons_succ, i64_w, i32_w]
    rfl
  refine pure_ (i := 8) (N := some 3) (v := ?_) (a' := ?_) #[true, true, true, false, true, false, true, false, true, false, false, false] rfl rfl (by kernel_rfl) (fun _ _ _ h => h) (Or.inl ⟨by rfl, ?_⟩) ?_ ?_
  rotate_left
  · intro w'
    go_simp
    with_reducible rfl
  rotate_left
  · simp only [Act.put, List.setIfInBounds_toArray, List.set_cons_zero, List.set_cons_succ, i64_w, i32_w]
    rfl
  refine take_ (i := 3) (N := some 23) (v := ?_) (a' := ?_) #[true, true, true, true, true, false, true, false, true, false, false, false] rfl rfl (by kernel_rfl) (fun _ _ _ h => h) (Or.inl ⟨by rfl, ?_⟩) hHeld ?_ ?_
  rotate_left
  · rintro w' ⟨s0, s1, s2, s3⟩
    go_simp
    with_reducible rfl
  rotate_left
  · simp only [Act.put, List.setIfInBounds_toArray, List.set_cons_zero, List.set_cons_succ, i64_w, i32_w]
    rfl
  refine pure_ (i := 9) (N := some 4) (v := ?_) (a' := ?_) #[true, true, true, true, true, false, true, false, true, true, false, false] rfl rfl (by kernel_rfl) (fun _ _ _ h => h) (Or.inl ⟨by rfl, ?_⟩) ?_ ?_
  rotate_left
  · intro w'
    go_simp
    with_reducible rfl
  rotate_left
  · simp only [Act.put, List.setIfInBounds_toArray, List.set_cons_zero, List.set_cons_succ, i64_w, i32_w]
    rfl
  refine take_ (i := 5) (N := some 25) (v := ?_) (a' := ?_) #[true, true, true, true, true, true, true, false, true, true, false, false] rfl rfl (by kernel_rfl) (fun _ _ _ h => h) (Or.inl ⟨by rfl, ?_⟩) hHeld ?_ ?_
  rotate_left
  · rintro w' ⟨s0, s1, s2, s3⟩
    go_simp
    with_reducible rfl
  rotate_left
  · simp only [Act.put, List.setIfInBounds_toArray, List.set_cons_zero, List.set_cons_succ, i64_w, i32_w]
    rfl
  refine pure_ (i := 10) (N := some 5) (v := ?_) (a' := ?_) #[true, true, true, true, true, true, true, false, true, true, true, false] rfl rfl (by kernel_rfl) (fun _ _ _ h => h) (Or.inl ⟨by rfl, ?_⟩) ?_ ?_
  rotate_left
  · intro w'
    go_simp
    with_reducible rfl
  rotate_left
  · simp only [Act.put, List.setIfInBounds_toArray, List.set_cons_zero, List.set_cons_succ, i64_w, i32_w]
    rfl
  refine take_ (i := 7) (N := some 27) (v := ?_) (a' := ?_) #[true, true, true, true, true, true, true, true, true, true, true, false] rfl rfl (by kernel_rfl) (fun _ _ _ h => h) (Or.inl ⟨by rfl, ?_⟩) hHeld ?_ ?_
  rotate_left
  · rintro w' ⟨s0, s1, s2, s3⟩
    go_simp
    with_reducible rfl
  rotate_left
  · simp only [Act.put, List.setIfInBounds_toArray, List.set_cons_zero, List.set_cons_succ, i64_w, i32_w]
    rfl
  refine pure_ (i := 11) (N := some 6) (v := ?_) (a' := ?_) #[true, true, true, true, true, true, true, true, true, true, true, true] rfl rfl (by kernel_rfl) (fun _ _ _ h => h) (Or.inl ⟨by rfl, ?_⟩) ?_ ?_
  rotate_left
  · intro w'
    go_simp
    with_reducible rfl
  rotate_left
  · simp only [Act.put, List.setIfInBounds_toArray, List.set_cons_zero, List.set_cons_succ, i64_w, i32_w]
    rfl
  refine done_ (by kernel_rfl) ?_
  clear hHeld z0 z1 z2 z5
  obtain ⟨W0, hW0⟩ : ∃ W0, W0 = W.drew := ⟨_, rfl⟩
  have hb0 : Hid (Below w.heap.size w W0) := by rw [hW0]; exact hb0.out.drew
  have HR0 : Hid (ActsRd W0 A1 ps) := HR.out.below hb0.out
  have HK0 : Hid (KeysRd W0 A2 keys) := HK.out.below hb0.out
  rw [← hW0]
  clear hW0 HR HK
  go_wp2_with fail
  refine (New_I a _ (by omega) (by omega)).mono ?_
  rintro e w1 ⟨gm, gb, rfl, hM, hbe1⟩
  replace hM := Lib.hid hM
  replace hbe1 := Lib.hid hbe1
  go_wp2_with fail
  refine (RNew_good a w1 (by omega) (by omega)).mono ?_
  rintro e w2 ⟨rfl, hbe2⟩
  have hB2 : Hid (∃ gq, gq = w2.heap.size ∧ Both W0 (w2.alloc (.cells #[.int .i64 a, .slice none 0 0, .int .i64 0, .int .i64 0, .int .i64 0] 47)) gm gb gq a 0 0 0 [] (.slice none 0 0)) := by
    refine ⟨_, rfl, ⟨(hM.out.below hbe2).below (below_alloc (Below.refl _ _) _), ⟨heap_alloc_new _ _, own_nil _ _ _ _, Nat.le_trans hbe1.out.size hbe2.size, by simp [kv]⟩, (below_step hbe1.out hbe2).trans (below_alloc (Below.refl _ _) _ |>.mono (Nat.le_trans hbe1.out.size hbe2.size))⟩⟩
  clear hM hbe1
  replace hbe2 := Lib.hid hbe2
  go_wp2_with fail
  obtain ⟨gq, hgq, hBo⟩ := hB2.out
  obtain ⟨w3, hw3⟩ : ∃ w3, w3 = w2.alloc (.cells #[.int .i64 a, .slice none 0 0, .int .i64 0, .int .i64 0, .int .i64 0] 47) := ⟨_, rfl⟩
  rw [← hw3] at hBo ⊢
  rw [← hgq]
  replace hBo := Lib.hid hBo
  clear hB2 hbe2 hw3 hgq
  go_loopw [59] (fun i wr => ∃ (k n : Nat) (h m g : Int) (L : List (Ent Int)) (v : Value), i = .int .i64 k ∧ k ≤ ps.length ∧ Hid (Both W0 wr gm gb gq n h m g L v) ∧ Hid (Cb k h m g)) (fun i _ => ps.length - (intOf i).toNat)
  case atStart => exact ⟨0, a, 0, 0, 0, [], _, rfl, by omega, hBo, ⟨by simp, by simp, by simp⟩⟩
  case round =>
    clear hBo
    obtain ⟨k, n, h, m, g, L, v, rfl, hk, hB, hcb⟩ := hrel
    by_cases hlt : k < ps.length
    · obtain ⟨ad, rfl, hX⟩ := HR0.out.2 k hlt
      obtain ⟨p, hpe⟩ : ∃ p, p = ps[k] := ⟨_, rfl⟩
      rw [← hpe] at hX
      clear hpe
      obtain ⟨Ak, ck, q0, q1, q2, q3, hP, hok, -⟩ := hX
      have hbel := hB.out.bel
      replace q0 := pw_cell_below hbel q0
      replace q1 := pw_cell_below hbel q1
      replace q2 := pw_cell_below hbel q2
      replace q3 := pw_cell_below hbel q3
      clear hbel
      replace hok := Lib.hid hok
      replace hP := Lib.hid hP
      go_wp2_with fail
      replace hB := Lib.hid (hB.out.thin (below_alloc (Below.refl _ wr) (.cells #[.int .i64 p.kind, .int .i64 p.k, .int .i64 p.v, .slice Ak p.keys.length ck] 30)))
      refine (does_calls W0 _ gm gb gq n h m g L v k p Ak ck hB.out hcb.out (by omega) hok.out hP.out).mono ?_
      rintro e w4 ⟨rfl, n', h', m', g', L', v', hB4, hcb4⟩
      replace hB4 := Lib.hid hB4
      replace hcb4 := Lib.hid hcb4
      clear q0 q1 q2 q3
      go_wp2_with fail
      go_roundw
      case rel => exact ⟨k + 1, n', h', m', g', L', v', by go_num, by omega, hB4, hcb4⟩
      case measure => simp [intOf]; omega
    · obtain rfl : k = ps.length := by omega
      obtain ⟨wa, hwa⟩ : ∃ wa, wa = wr := ⟨_, rfl⟩
      subst hwa
      have HKr : Hid (KeysRd wa A2 keys) := HK0.out.below hB.out.bel
      have hBe0 : Hid (Below W0.heap.size W0 wa) := hB.out.bel
      have hco1 := hcb.out.g
      have hco2 := hB.out.me.g0
      have hLl : L.length ≤ 4096 := by have := hB.out.me.ln; have := hB.out.me.m2; omega
      obtain ⟨rl, hrl⟩ : ∃ rl, rl = keys ++ [-7, -7] := ⟨_, rfl⟩
      replace hrl := Lib.hid hrl
      obtain ⟨i3, hi3, -⟩ := Option.map_eq_some_iff.1 info3
      have hrll : keys.length + 1 < rl.length := by rw [hrl.out]; simp
      replace hi3 := Lib.hid hi3
      go_wp2_with (first
        | ((with_reducible refine gate_builtin (b := .append) (xs := #[.const (.slice none 0 0), .tmp 67]) rfl ?_); go_must (refine appR (w0 := wa) (B := wa.heap.size) rfl (.const (.slice none 0 0)) (.tmp 67) rfl (.slice none 0 0) [] keys A2 c2 rfl rfl (Lib.hid (own_nil _ _ _ _)) HKr (Lib.hid (Below.refl _ _)) (Nat.le_refl _) (by simp; omega) ?_); intro v1 y1 ho1 hbl1 hg1; replace ho1 : Hid (Own y1 wa.heap.size v1 keys) := ho1; clear hg1)
        | ((with_reducible refine gate_builtin (b := .append) (xs := #[.tmp 68, .tmp 69]) rfl ?_); go_must (refine appR (w0 := wa) (B := wa.heap.size) rfl (.tmp 68) (.tmp 69) rfl v1 keys [-7, -7] (some ⟨y1.heap.size, 0, none⟩) 2 rfl rfl (Lib.hid (ho1.out.below (below_alloc (Below.refl _ _) _))) (Lib.hid (reads_lit y1 [-7, -7] (by simp))) (Lib.hid (hbl1.out.trans (below_alloc (Below.refl _ _) _ |>.mono hbl1.out.size))) (by have := hbl1.out.size; simp; omega) (by simp; omega) ?_); intro v2 y2 ho2 hbl2 hg2; clear hg2; rw [← hrl.out] at ho2; obtain ⟨A3, c3, rfl, hr3, hle3⟩ := own_rd2 ho2.out; have hcut : ∀ W : World, (Instr.slice 28 (.slice A3 rl.length c3) none (some (.int .i64 (keys.length : Int))) none).run Try.prog W = .ok (.slice A3 keys.length c3) W := cut_to 28 3 .i64 Try.underlying28 hi3.out A3 rl.length c3 (keys.length : Int) (by omega) (by omega) hle3; clear hr3 ho1 hbl1))
      have hBy : Hid (Both W0 y2 gm gb gq n h m g L v) := hB.out.thin hbl2.out
      have hsz1 := hB.out.bel.size
      have hsz2 := hbl2.out.size
      have hKl := HK0.out.2.1
      clear hB hbl2 HKr hBe0 hcut
      refine (Drop_kv y2 W0.heap.size gm gb n h m g L A3 c3 keys hBy.out.me HI.out hKl (fun W' hc => by
        have ho3 := ho2.out.chg hc (fun k hk hf => ho2.out.apart hBy.out.me k hf hk)
        rw [hrl.out] at ho3
        exact own_pre ho3)).mono ?_
      rintro e w4 ⟨rfl, L4, hs4⟩
      have hU := hBy.out.uniq
      have hBl4 := Chg.old hBy.out.me hs4.ch hBy.out.bel hBy.out.bel.size
      have hR4 := hBy.out.mid hs4
      have hO4 := ho2.out.chg hs4.ch (fun k hk hf => ho2.out.apart hBy.out.me k hf hk)
      have hgqb := hBy.out.r.b
      have hDr := RDrop_calls w4 W0.heap.size gq n h m g v (kv L) hR4 hU A2 c2 keys hKl (fun W' hc => HK0.out.below (hBl4.trans (hc.below (Nat.le_trans hBy.out.bel.size hs4.ch.size) (fun q hq => by rw [hq]; exact hgqb))))
      replace hDr := Lib.hid hDr
      replace hO4 := Lib.hid hO4
      replace hR4 := Lib.hid hR4
      replace hs4 := Lib.hid hs4
      clear hU hBl4 ho2
      go_wp2_with fail
      refine hDr.out.mono ?_
      clear hDr
      rintro e w5 ⟨rfl, v5, r5, hc5⟩
      have hB5 : Hid (Both W0 w5 gm gb gq n h m g L4 v5) := hBy.out.step hs4.out r5 hc5
      have hO5 : Hid (Own w5 wa.heap.size (.slice A3 rl.length c3) rl) := hO4.out.chg hc5 (fun k hk he => hO4.out.apartR hR4.out (by rw [hk, he]))
      have hsz5 : y2.heap.size ≤ w5.heap.size := Nat.le_trans hs4.out.ch.size hc5.size
      clear hs4 r5 hc5 hBy hO4 hR4
      go_wp2_with fail
      have hl4 := hB5.out.me.ln
      have hm2 := hB5.out.me.m2
      refine (Resize_any w5 W0.heap.size gm gb n h m g L4 less hB5.out.me hB5.out.bel.size (by omega)).mono ?_
      obtain ⟨lst, hlst⟩ : ∃ lst, lst = rzGone less (kv L4) := ⟨_, rfl⟩
      have hll : lst.length ≤ 4096 := by rw [hlst]; have := rzGone_len less (kv L4); rw [kv_len] at this; omega
      rw [← hlst]
      rintro e w6 ⟨l1, er1, rfl, hl1, L6, hs6⟩
      obtain ⟨A6, c6, rfl, -, hle6⟩ := own_rd2 hl1
      have hR6 := hB5.out.mid hs6
      have hRz := RResize_any w6 W0.heap.size gq n h m g v5 (kv L4) less hR6 (Nat.le_trans hB5.out.bel.size hs6.ch.size) hco2 (by omega)
      have hO6 := hO5.out.chg hs6.ch (fun k hk hf => hO5.out.apart hB5.out.me k hf hk)
      rw [kv_len, ← hlst] at hRz
      replace hRz := Lib.hid hRz
      replace hs6 := Lib.hid hs6
      replace hl1 := Lib.hid hl1
      replace hR6 := Lib.hid hR6
      replace hO6 := Lib.hid hO6
      replace hlst := Lib.hid hlst
      clear hl4 hm2
      go_wp2_with fail
      refine hRz.out.mono ?_
      clear hRz
      rintro e w7 ⟨k1, er2, rfl, hk1, v7, r7, hc7⟩
      obtain ⟨A7, c7, rfl, hr7, hle7⟩ := own_rd2 hk1
      obtain ⟨n7, hn7⟩ : ∃ n7, n7 = rzN less n := ⟨_, rfl⟩
      obtain ⟨g7, hg7⟩ : ∃ g7, g7 = g + rzG less L4.length := ⟨_, rfl⟩
      have hB7 : Hid (Both W0 w7 gm gb gq n7 h m g7 L6 v7) := by rw [hn7, hg7]; exact hB5.out.step hs6.out r7 hc7
      have hO7 : Hid (Own w7 wa.heap.size (.slice A3 rl.length c3) rl) := hO6.out.chg hc7 (fun k hk he => hO6.out.apartR hR6.out (by rw [hk, he]))
      have hL7 : Hid (Own w7 w5.heap.size (.slice A6 lst.length c6) lst) := hl1.out.chg hc7 (fun k hk he => hl1.out.apartR hR6.out (by rw [hk, he]))
      have hr6 := own_rdA hL7.out
      have hSm := Lib.hid (Same_calls w7 A6 A7 c6 c7 lst hr6 hr7)
      have hsz8 : w5.heap.size ≤ (w7.drewN 0).heap.size := Nat.le_trans hs6.out.ch.size hc7.size
      clear hs6 r7 hc7 hl1 hO6 hR6 hB5 hn7 hg7 hk1 hr6 hr7
      go_wp2_with fail
      refine hSm.out.mono ?_
      clear hSm
      rintro e w8' ⟨rfl, nn, rfl⟩
      have hsz9 : w5.heap.size ≤ (w7.drewN nn).heap.size := hsz8
      have hB8 : Hid (Both W0 (w7.drewN nn) gm gb gq n7 h m g7 L6 v7) := hB7.out.drewN nn
      have hO8 : Hid (Own (w7.drewN nn) wa.heap.size (.slice A3 rl.length c3) rl) := hO7.out.drewN nn
      have hL8 : Hid (Own (w7.drewN nn) w5.heap.size (.slice A6 lst.length c6) lst) := hL7.out.drewN nn
      have hlt3 : Hid (∀ k, Value.ownBlock (.slice A3 rl.length c3) = some k → k < w5.heap.size) := fun k hk => own_lt hO5.out k hk
      obtain ⟨w8, hw8⟩ : ∃ w8, w8 = w7.drewN nn := ⟨_, rfl⟩
      rw [← hw8] at hB8 hO8 hL8 hsz9 ⊢
      clear hw8 hB7 hO7 hL7 hO5 hsz8
      go_wp2_with fail
      go_loopw [97] (fun i wr => ∃ (j : Nat) (l' : List Int), i = .int .i64 j ∧ j ≤ lst.length ∧ l'.length = lst.length ∧ w5.heap.size ≤ wr.heap.size ∧ Hid (Own wr w5.heap.size (.slice A6 lst.length c6) l') ∧ Hid (Both W0 wr gm gb gq n7 h m g7 L6 v7) ∧ Hid (Own wr wa.heap.size (.slice A3 rl.length c3) rl)) (fun i _ => lst.length - (intOf i).toNat)
      case atStart => exact ⟨0, lst, rfl, by omega, rfl, hsz9, hL8, hB8, hO8⟩
      case round =>
        clear hB8 hO8 hL8
        obtain ⟨j, l', rfl, hj, hl', hszz, hL, hB, hO⟩ := hrel
        replace hl' := Lib.hid hl'
        by_cases hlt : j < lst.length
        · obtain ⟨g6, rfl⟩ := own_frm hL.out (by rw [hl'.out]; omega)
          obtain ⟨hc1, hf1⟩ := own_cel hL.out hl'.out.symm j (by rw [hl'.out]; exact hlt)
          obtain ⟨hL9, hg9⟩ := own_put hL.out hl'.out.symm j (-9)
          have hB9 := Lib.hid (hB.out.own hL.out (by omega) hg9)
          have hO9 := Lib.hid (hO.out.older hg9 hL.out hlt3.out)
          replace hL9 := Lib.hid hL9
          have hszn := Nat.le_trans hszz hg9.size
          clear hg9
          go_wp2_with fail
          go_roundw
          case rel => exact ⟨j + 1, l'.set j (-9), by go_num, by omega, by rw [List.length_set]; exact hl'.out, hszn, hL9, hB9, hO9⟩
          case measure => simp [intOf]; omega
        · go_wp2_with ((with_reducible refine gate_builtin (b := .append) (xs := #[.tmp 104, .tmp 105]) rfl ?_); go_must (refine appR (w0 := wr) (B := w5.heap.size) rfl (.tmp 104) (.tmp 105) rfl (.slice A6 lst.length c6) l' [-8, -8, -8] (some ⟨wr.heap.size, 0, none⟩) 3 rfl rfl (Lib.hid (hL.out.below (below_alloc (Below.refl _ _) _))) (Lib.hid (reads_lit wr [-8, -8, -8] (by simp))) (Lib.hid (Below.mono (below_alloc (Below.refl _ _) _) hszz)) (by simp; omega) (by rw [hl'.out]; simp; omega) ?_); intro v9 w9 ho9 hbl9 hg9; clear ho9 hbl9)
          have hBa := hB.out.thin (below_alloc (Below.refl _ wr) (.cells #[.int .i64 (-8), .int .i64 (-8), .int .i64 (-8)] 3))
          have hLa := hL.out.below (below_alloc (Below.refl _ wr) (.cells #[.int .i64 (-8), .int .i64 (-8), .int .i64 (-8)] 3))
          have hOa := hO.out.below (below_alloc (Below.refl _ wr) (.cells #[.int .i64 (-8), .int .i64 (-8), .int .i64 (-8)] 3))
          have hB9 := Lib.hid (hBa.own hLa (by omega) hg9.out)
          have hO9 := Lib.hid (hOa.older hg9.out hLa hlt3.out)
          clear hBa hLa hOa hg9 hB hO hL
          obtain ⟨g3, rfl⟩ := own_frm hO9.out (by omega)
          have hpre : KeysRd w9 (some ⟨g3, 0, none⟩) keys := by
            have h5 := hO9.out
            rw [hrl.out] at h5
            exact own_pre h5
          refine (Same_calls w9 (some ⟨g3, 0, none⟩) A2 c3 c2 keys hpre (HK0.out.below hB9.out.bel)).mono ?_
          rintro e w10' ⟨rfl, n2, rfl⟩
          have hB10 : Hid (Both W0 (w9.drewN n2) gm gb gq n7 h m g7 L6 v7) := hB9.out.drewN n2
          have hO10 : Hid (Own (w9.drewN n2) wa.heap.size (.slice (some ⟨g3, 0, none⟩) rl.length c3) rl) := hO9.out.drewN n2
          obtain ⟨w10, hw10⟩ : ∃ w10, w10 = w9.drewN n2 := ⟨_, rfl⟩
          rw [← hw10] at hB10 hO10 ⊢
          have e7 := (own_cel hO10.out rfl keys.length (by omega)).1
          have e8 := (own_cel hO10.out rfl (keys.length + 1) (by omega)).1
          have gd : rl.getD keys.length 0 = -7 ∧ rl.getD (keys.length + 1) 0 = -7 := by rw [hrl.out]; exact getD_app
          rw [gd.1] at e7
          rw [gd.2] at e8
          clear gd hpre hw10 hB9 hO9 hO10
          go_wp2_with fail
          refine (stands_calls W0 w10 gm gb gq n7 h m g7 L6 v7 hB10.out).mono ?_
          rintro e w11 ⟨rfl, hb11⟩
          have hbf := hb0.out.trans (hB10.out.bel.mono hb0.out.size)
          have hbg := below_step hbf hb11
          replace hbg := Lib.hid hbg
          clear hbf hb11 e7 e8
          go_wp2_with fail
          refine (alive_ok w11).mono ?_
          rintro e w12 ⟨rfl, hb12⟩
          replace hb12 := Lib.hid hb12
          go_wp2_with fail
          go_ret
          exact ⟨by simp, below_step hbg.out hb12.out⟩
set_option maxRecDepth 100000 in
set_option maxHeartbeats 4000000 in
theorem LruOwn_bad (most less : Int) (A1 : Option Addr) (n1 c1 : Nat) (x3 x4 : Value) (A2 : Option Addr) (n2 c2 : Nat) (hm : most < 1 ∨ 4096 < most) :
    Calls Try.prog 7 #[.agg #[.int .i64 most, .int .i64 less, .slice A1 n1 c1, x3, x4, .slice A2 n2 c2]] w fun e w' => e = .returned (.bool true) ∧ Below w.heap.size w w' := by
  go_enter Try.func7, Try.ntmps7
  go_wp2_with fail
  have hac := heap_alloc_new w (.cells #[.int .i64 most, .int .i64 less, .slice A1 n1 c1, x3, x4, .slice A2 n2 c2] 44)
  have hb0 := below_alloc (Below.refl _ w) (.cells #[.int .i64 most, .int .i64 less, .slice A1 n1 c1, x3, x4, .slice A2 n2 c2] 44)
  obtain ⟨W, hW⟩ : ∃ W, W = w.alloc (.cells #[.int .i64 most, .int .i64 less, .slice A1 n1 c1, x3, x4, .slice A2 n2 c2] 44) := ⟨_, rfl⟩
  obtain ⟨gx, hgx⟩ : ∃ gx, gx = w.heap.size := ⟨_, rfl⟩
  rw [← hW, ← hgx] at hac
  rw [← hW] at hb0 ⊢
  rw [← hgx]
  have z0 := blk_cell hac 0
  have z1 := blk_cell hac 1
  have z2 := blk_cell hac 2
  have z5 := blk_cell hac 5
  simp only [List.getElem?_toArray, List.getElem?_cons_zero, List.getElem?_cons_succ] at z0 z1 z2 z5
  replace hb0 := Lib.hid hb0
  replace hm := Lib.hid hm
  clear hW hac hgx
  refine start_ (n := 12) (S := fun w' => w'.cell? ⟨gx, 0, none⟩ = some (.int .i64 most) ∧ w'.cell? ⟨gx, 1, none⟩ = some (.int .i64 less) ∧ w'.cell? ⟨gx, 2, none⟩ = some (.slice A1 n1 c1) ∧ w'.cell? ⟨gx, 5, none⟩ = some (.slice A2 n2 c2)) (ds := []) #[false, false, false, false, false, false, false, false, false, false, false, false] (by kernel_rfl) rfl rfl ⟨z0, z1, z2, z5⟩ (fun hHeld => ?_)
  refine pure_ (i := 0) (N := some 20) (v := ?_) (a' := ?_) #[true, false, false, false, false, false, false, false, false, false, false, false] rfl rfl (by kernel_rfl) (fun _ _ _ h => h) (Or.inl ⟨by rfl, ?_⟩) ?_ ?_
  rotate_left
  · intro w'
    go_simp
    with_reducible rfl
  rotate_left
  · simp only [Act.put, List.setIfInBounds_toArray, List.set_cons_zero, List.set_cons_succ, i64_w, i32_w]
    rfl
  refine pure_ (i := 2) (N := some 22) (v := ?_) (a' := ?_) #[true, false, true, false, false, false, false, false, false, false, false, false] rfl rfl (by kernel_rfl) (fun _ _ _ h => h) (Or.inl ⟨by rfl, ?_⟩) ?_ ?_
  rotate_left
  · intro w'
    go_simp
    with_reducible rfl
  rotate_left
  · simp only [Act.put, List.setIfInBounds_toArray, List.set_cons_zero, List.set_cons_succ, i64_w, i32_w]
    rfl
  refine pure_ (i := 4) (N := some 24) (v := ?_) (a' := ?_) #[true, false, true, false, true, false, false, false, false, false, false, false] rfl rfl (by kernel_rfl) (fun _ _ _ h => h) (Or.inl ⟨by rfl, ?_⟩) ?_ ?_
  rotate_left
  · intro w'
    go_simp
    with_reducible rfl
  rotate_left
  · simp only [Act.put, List.setIfInBounds_toArray, List.set_cons_zero, List.set_cons_succ, i64_w, i32_w]
    rfl
  refine pure_ (i := 6) (N := some 26) (v := ?_) (a' := ?_) #[true, false, true, false, true, false, true, false, false, false, false, false] rfl rfl (by kernel_rfl) (fun _ _ _ h => h) (Or.inl ⟨by rfl, ?_⟩) ?_ ?_
  rotate_left
  · intro w'
    go_simp
    with_reducible rfl
  rotate_left
  · simp only [Act.put, List.setIfInBounds_toArray, List.set_cons_zero, List.set_cons_succ, i64_w, i32_w]
    rfl
  refine take_ (i := 1) (N := some 21) (v := ?_) (a' := ?_) #[true, true, true, false, true, false, true, false, false, false, false, false] rfl rfl (by kernel_rfl) (fun _ _ _ h => h) (Or.inl ⟨by rfl, ?_⟩) hHeld ?_ ?_
  rotate_left
  · rintro w' ⟨s0, s1, s2, s3⟩
    go_simp
    with_reducible rfl
  rotate_left
  · simp only [Act.put, List.setIfInBounds_toArray, List.set_cons_zero, List.set_cons_succ, i64_w, i32_w]
    rfl
  refine pure_ (i := 8) (N := some 3) (v := ?_) (a' := ?_) #[true, true, true, false, true, false, true, false, true, false, false, false] rfl rfl (by kernel_rfl) (fun _ _ _ h => h) (Or.inl ⟨by rfl, ?_⟩) ?_ ?_
  rotate_left
  · intro w'
    go_simp
    with_reducible rfl
  rotate_left
  · simp only [Act.put, List.setIfInBounds_toArray, List.set_cons_zero, List.set_cons_succ, i64_w, i32_w]
    rfl
  refine take_ (i := 3) (N := some 23) (v := ?_) (a' := ?_) #[true, true, true, true, true, false, true, false, true, false, false, false] rfl rfl (by kernel_rfl) (fun _ _ _ h => h) (Or.inl ⟨by rfl, ?_⟩) hHeld ?_ ?_
  rotate_left
  · rintro w' ⟨s0, s1, s2, s3⟩
    go_simp
    with_reducible rfl
  rotate_left
  · simp only [Act.put, List.setIfInBounds_toArray, List.set_cons_zero, List.set_cons_succ, i64_w, i32_w]
    rfl
  refine pure_ (i := 9) (N := some 4) (v := ?_) (a' := ?_) #[true, true, true, true, true, false, true, false, true, true, false, false] rfl rfl (by kernel_rfl) (fun _ _ _ h => h) (Or.inl ⟨by rfl, ?_⟩) ?_ ?_
  rotate_left
  · intro w'
    go_simp
    with_reducible rfl
  rotate_left
  · simp only [Act.put, List.setIfInBounds_toArray, List.set_cons_zero, List.set_cons_succ, i64_w, i32_w]
    rfl
  refine take_ (i := 5) (N := some 25) (v := ?_) (a' := ?_) #[true, true, true, true, true, true, true, false, true, true, false, false] rfl rfl (by kernel_rfl) (fun _ _ _ h => h) (Or.inl ⟨by rfl, ?_⟩) hHeld ?_ ?_
  rotate_left
  · rintro w' ⟨s0, s1, s2, s3⟩
    go_simp
    with_reducible rfl
  rotate_left
  · simp only [Act.put, List.setIfInBounds_toArray, List.set_cons_zero, List.set_cons_succ, i64_w, i32_w]
    rfl
  refine pure_ (i := 10) (N := some 5) (v := ?_) (a' := ?_) #[true, true, true, true, true, true, true, false, true, true, true, false] rfl rfl (by kernel_rfl) (fun _ _ _ h => h) (Or.inl ⟨by rfl, ?_⟩) ?_ ?_
  rotate_left
  · intro w'
    go_simp
    with_reducible rfl
  rotate_left
  · simp only [Act.put, List.setIfInBounds_toArray, List.set_cons_zero, List.set_cons_succ, i64_w, i32_w]
    rfl
  refine take_ (i := 7) (N := some 27) (v := ?_) (a' := ?_) #[true, true, true, true, true, true, true, true, true, true, true, false] rfl rfl (by kernel_rfl) (fun _ _ _ h => h) (Or.inl ⟨by rfl, ?_⟩) hHeld ?_ ?_
  rotate_left
  · rintro w' ⟨s0, s1, s2, s3⟩
    go_simp
    with_reducible rfl
  rotate_left
  · simp only [Act.put, List.setIfInBounds_toArray, List.set_cons_zero, List.set_cons_succ, i64_w, i32_w]
    rfl
  refine pure_ (i := 11) (N := some 6) (v := ?_) (a' := ?_) #[true, true, true, true, true, true, true, true, true, true, true, true] rfl rfl (by kernel_rfl) (fun _ _ _ h => h) (Or.inl ⟨by rfl, ?_⟩) ?_ ?_
  rotate_left
  · intro w'
    go_simp
    with_reducible rfl
  rotate_left
  · simp only [Act.put, List.setIfInBounds_toArray, List.set_cons_zero, List.set_cons_succ, i64_w, i32_w]
    rfl
  refine done_ (by kernel_rfl) ?_
  clear hHeld z0 z1 z2 z5
  obtain ⟨W0, hW0⟩ : ∃ W0, W0 = W.drew := ⟨_, rfl⟩
  have hb0 : Hid (Below w.heap.size w W0) := by rw [hW0]; exact hb0.out.drew
  rw [← hW0]
  clear hW0
  go_wp2_with fail
  refine (New_I_bad most _ hm.out).mono ?_
  rintro e w1 ⟨rfl, rfl⟩
  go_wp2_with fail
  refine (RNew_bad most _ hm.out).mono ?_
  rintro e w2 ⟨rfl, hbe2⟩
  replace hbe2 := Lib.hid (below_step hb0.out hbe2)
  go_wp2_with (first | (go_at_call 9; go_must (refine (alive_ok _).mono ?_); rintro e w3 ⟨rfl, hbe3⟩; replace hbe3 := Lib.hid hbe3))
  go_ret
  exact ⟨rfl, below_step (below_step hbe2.out (below_alloc (Below.refl _ _) _)) hbe3.out⟩
end Go.Proofs.Ytecgbhiebaiokaa.G

/- LruOwnSaid is proved: the law LruOwn returns true whatever the input, which reads as before. No conditions. -/
namespace Go.Proofs.Ytecgbhiebaiokaa.G
open Go.ChangeShapes Go.WideShapes Go.RowKit Go.Joins Go.Deep Go.Proofs.YtecgbhiebaiokaaW.PrintWords Go.Proofs.YtecgbhiebaiokaaW.PrintLast Go.Proofs.YtecgbhiebaiokaaW.PrintMore
set_option linter.unusedSimpArgs false
set_option linter.unusedVariables false
theorem bytes3 : Try.prog.bytesOf 3 = 8 := by kernel_rfl
theorem cells44 : Try.prog.cellsOf 44 = 6 := by kernel_rfl
section
variable {H : Type} {enc : TypeId × Value → H} {w : World} {base : Nat} {spare : Nat → Bool} {held : Bool}
/-- a Three, read -/
theorem open_three {v : Value} {fuel : Nat} {x : DataW H × List MemPlace} (hv : ∃ cs : Array Value, v = .agg cs ∧ cs.size = 6) (h : DataW.trod enc Try.prog w base spare held fuel 44 v.cells.toList = some x) :
    ∃ (most n : Int) (A1 : Option Addr) (c1 : Nat) (ps later : List ActL) (A3 : Option Addr) (c3 : Nat) (x4 : Value) (A2 : Option Addr) (c2 : Nat) (keys : List Int) (d0 d1 d2 d3 d4 d5 : DataW H),
      v = .agg #[.int .i64 most, .int .i64 n, .slice A1 ps.length c1, .slice A3 later.length c3, x4, .slice A2 keys.length c2] ∧ ActsRd w A1 ps ∧ ActsRd w A3 later ∧ KeysRd w A2 keys ∧ (∀ z ∈ keys, InI z) ∧ InI n ∧
      x.1 = .agg [d0, d1, d2, d3, d4, d5] ∧ LenD ps.length d2 ∧ LenD later.length d3 ∧ LenD keys.length d5 := by
  obtain ⟨⟨l⟩, rfl, hsz⟩ := hv
  match l, hsz with
  | [b0, b1, b2, b3, b4, b5], _ =>
    obtain ⟨xs, m, rfl, rfl, hl, hlen, hf⟩ := DataW.trod_struct Try.underlying44 h
    match xs, hlen with
    | [y0, y1, y2, y3, y4, y5], _ =>
      have c3 : Try.prog.cellsOf 3 = 1 := by kernel_rfl
      have c22 : Try.prog.cellsOf 22 = 1 := by kernel_rfl
      have c28 : Try.prog.cellsOf 28 = 1 := by kernel_rfl
      have h0 : DataW.trod enc Try.prog w base spare held m 3 [b0] = some y0 := by simpa [Value.cells, c3, c22, c28] using hf 0 _ rfl
      have h1 : DataW.trod enc Try.prog w base spare held m 3 [b1] = some y1 := by simpa [Value.cells, c3, c22, c28] using hf 1 _ rfl
      have h2 : DataW.trod enc Try.prog w base spare held m 22 [b2] = some y2 := by simpa [Value.cells, c3, c22, c28] using hf 2 _ rfl
      have h3 : DataW.trod enc Try.prog w base spare held m 22 [b3] = some y3 := by simpa [Value.cells, c3, c22, c28] using hf 3 _ rfl
      have h5 : DataW.trod enc Try.prog w base spare held m 28 [b5] = some y5 := by simpa [Value.cells, c3, c22, c28] using hf 5 _ rfl
      obtain ⟨k, e0, _, w0⟩ := DataW.trod_int Try.underlying3 h0
      obtain ⟨u, e1, _, w1⟩ := DataW.trod_int Try.underlying3 h1
      obtain ⟨ps, A1, c1, e2, hr, hl2⟩ := open_acts h2
      obtain ⟨later, A3, c3', e3, hr3, hl3⟩ := open_acts h3
      obtain ⟨keys, A2, c2, e5, _, _, hk, hl5, hi⟩ := open_keys h5
      simp only [List.cons.injEq, and_true] at e0 e1 e2 e3 e5
      subst e0 e1 e2 e3 e5
      exact ⟨k, u, A1, c1, ps, later, A3, c3', b4, A2, c2, keys, y0.1, y1.1, y2.1, y3.1, y4.1, y5.1, rfl, hr, hr3, hk, hi, wf_in w1, rfl, hl2, hl3, hl5⟩
/-- the weights of a Three's parts -/
theorem three_sized {gs : List (DataW H)} {ts : List TypeId} {parts : List (DataW H)} (h : (DataW.weightsEach Try.prog (44 :: ts) (.agg parts :: gs)).all (· ≤ reachBytes) = true) : (DataW.weightsEach Try.prog [3, 3, 22, 22, 22, 28] parts).all (· ≤ reachBytes) = true := by
  refine List.all_eq_true.2 fun n hn => List.all_eq_true.1 h n ?_
  refine DataW.weights_mem_each (j := 0) (t := 44) (d := .agg parts) rfl rfl n ?_
  simp only [DataW.weights, Try.underlying44]
  exact hn
end
theorem LruOwn_calls (w : World) (most less : Int) (A1 : Option Addr) (c1 : Nat) (ps : List ActL) (x3 x4 : Value) (A2 : Option Addr) (c2 : Nat) (keys : List Int) (hr : ActsRd w A1 ps) (hlen2 : ps.length ≤ 100000000000000) (hk : KeysRd w A2 keys) (hki : ∀ x ∈ keys, InI x) (hkl : (keys.length + 2) * 8 ≤ 140737488355328) :
    Calls Try.prog 7 #[.agg #[.int .i64 most, .int .i64 less, .slice A1 ps.length c1, x3, x4, .slice A2 keys.length c2]] w fun e w' => e = .returned (.bool true) ∧ Below w.heap.size w w' := by
  by_cases h : most < 1 ∨ 4096 < most
  · exact LruOwn_bad w most less A1 ps.length c1 x3 x4 A2 keys.length c2 h
  · obtain ⟨a, rfl⟩ : ∃ a : Nat, most = a := ⟨most.toNat, by omega⟩
    exact LruOwn_good w a less A1 c1 ps x3 x4 A2 c2 keys (by omega) (by omega) hr hlen2 hk hki hkl
set_option maxRecDepth 100000 in
theorem own_lifted (os : Os) (started : os.Started) (H : Type) (enc : TypeId × Value → H) :
    ReturnsInHanded {} Try.checked os 7 .any (Rows.lruOwnSpec.pre6 enc Try.prog Try.f7 Rows.lruOwnRow.domain false) (Rows.lruOwnSpec.post enc Try.prog Try.f7 false true false false) := by
  refine returnsInHanded_of_change_sized (C := Try.checked) own started (by kernel_rfl) Try.func7
    (ChangeSpec.witness6 (enc := enc) (C := Try.checked) false ⟨#[], #[.agg #[.int .i64 0, .int .i64 0, .slice none 0 0, .slice none 0 0, .slice none 0 0, .slice none 0 0]], []⟩ 8 (by kernel_rfl) (by kernel_rfl) (by kernel_rfl) (by kernel_rfl)) ?_
  intro W base args ds gs before hval0 hW hcnd hsz0 _
  have hval : ∀ (j : Nat) t v, Try.f7.params[j]? = some t → args[j]? = some v → Value.okWide Try.prog W .any base t v := hval0
  have hsz : (DataW.weightsEach Try.prog (Try.f7.params.toList ++ Rows.lruOwnSpec.plain.varTypes Try.prog) (ds ++ gs)).all (· ≤ reachBytes) = true := hsz0
  have hW' := hW
  obtain ⟨p, q, hA0, hV, rfl, hfz, hnd⟩ := hW
  have hA : DataW.TrodAll enc Try.prog W 0 (fun _ => true) true Try.f7.params.toList args.toList ds p := hA0
  rw [Try.params7] at hA hval hsz
  obtain ⟨v0, vs0, d0, ds0, p0, q0, hargs, rfl, rfl, h0, r0⟩ := trodAll_cons hA
  obtain ⟨rfl, rfl, rfl⟩ := trodAll_nil r0
  obtain rfl : args = #[v0] := by cases args; simp_all
  obtain ⟨rfl, rfl⟩ := trodVars_none hV
  have k0 := h0
  have lt0 : ∀ x ∈ p0, x.block < W.heap.size := by obtain ⟨m, hm⟩ := k0; exact DataW.trod_lt m _ _ _ hm
  obtain ⟨cs, hcs, hcsz⟩ := okWide_struct Try.underlying44 (hval 0 44 v0 rfl rfl)
  obtain ⟨fuel, hf⟩ := h0
  obtain ⟨most, n, A1, c1, ps, later, A3, c3, x4, A2, c2, keys, e0, e1, e2, e3, e4, e5, rfl, hr, -, hk, hki, -, hd, l2, -, l5⟩ := open_three ⟨cs, hcs, hcsz.trans cells44⟩ hf
  have hd0 : d0 = .agg [e0, e1, e2, e3, e4, e5] := hd
  subst hd0
  have hs6 := three_sized hsz
  have b2 := l2.sized hs6 (j := 2) (t := 22) (e := 30) rfl rfl Try.underlying22
  have b5 := l5.sized hs6 (j := 5) (t := 28) (e := 3) rfl rfl Try.underlying28
  rw [bytes30] at b2
  rw [bytes3] at b5
  clear hA0 hval0
  refine (LruOwn_calls W most n A1 c1 ps _ x4 A2 c2 keys hr (by omega) hk hki (by omega)).mono fun e W' ⟨he, bel⟩ => ?_
  subst he
  exact ⟨_, rfl, _, _, _, [], _, [], hW', trodAll_mk1 (shut_bool Try.underlying4 _), trodAll_cons_mk (Below.trod laidOut (by kernel_rfl) (of_decide_eq_true (by kernel_rfl)) k0 bel lt0) trodAll_mk0, rfl, bel.frame _, fun h => by cases h⟩
theorem own_proved : Rows.LruOwnSaid :=
  OpenClaim.holds_of_wide 7 Try.f7 rfl rfl rfl rfl rfl rfl rfl ⟨rfl, rfl, rfl, rfl, rfl⟩ rfl rfl rfl rfl rfl (by kernel_rfl) Try.func7 (by kernel_rfl)
    (of_decide_eq_true (by kernel_rfl)) (by unfold Func.isWrapper; first | (rw [if_pos (by decide +kernel)]; kernel_rfl) | (rw [if_neg (by decide +kernel)]; exact ⟨rfl, rfl⟩))
    (fun os started H enc _ => own_lifted os started H enc)
end Go.Proofs.Ytecgbhiebaiokaa.G
namespace Go.Proofs.Ytecgbhiebaiokaa
/-- The row, under a short name, for the claim. -/
theorem lruOwn_holds : Rows.LruOwnSaid := G.own_proved
#print axioms lruOwn_holds
end Go.Proofs.Ytecgbhiebaiokaa

/- does once more: which blocks it turns. -/
namespace Go.Proofs.Ytecgbhiebaiokaa.G
open Go.RowKit Go.Proofs.YtecgbhiebaiokaaW.PrintWords Go.Proofs.YtecgbhiebaiokaaW.PrintLast Go.Proofs.YtecgbhiebaiokaaW.PrintMore
set_option linter.unusedSimpArgs false
set_option linter.unusedVariables false
/-- since ws only the memos' own blocks have turned -/
structure BothK (w0 ws : World) (Ls : List (Ent Int)) (W : World) (gm gb gq n : Nat) (h m g : Int) (L : List (Ent Int)) (v : Value) : Prop extends Both w0 W gm gb gq n h m g L v where
  kch : Chg ws W (fun q => FM gm gb Ls q ∨ q = gq)
  kfm : ∀ q, FM gm gb L q → FM gm gb Ls q ∨ ws.heap.size ≤ q
section
variable {w0 ws W W1 : World} {Ls : List (Ent Int)} {gm gb gq n : Nat} {h m g : Int} {L : List (Ent Int)} {v : Value}
theorem Both.kept (b : Both w0 W gm gb gq n h m g L v) : BothK w0 W L W gm gb gq n h m g L v := ⟨b, Chg.refl _ _, fun _ hq => .inl hq⟩
theorem BothK.thin (b : BothK w0 ws Ls W gm gb gq n h m g L v) (hb : Below W.heap.size W W1) : BothK w0 ws Ls W1 gm gb gq n h m g L v := ⟨b.toBoth.thin hb, b.kch.trans (Chg.of_below hb (fun _ => False)) (fun _ _ h => h.elim), b.kfm⟩
theorem BothK.drewN (b : BothK w0 ws Ls W gm gb gq n h m g L v) (k : Nat) : BothK w0 ws Ls (W.drewN k) gm gb gq n h m g L v := ⟨b.toBoth.drewN k, b.kch.drewN k, b.kfm⟩
theorem BothK.step (b : BothK w0 ws Ls W gm gb gq n h m g L v) {n' : Nat} {h' m' g' : Int} {L' : List (Ent Int)} {M : KV} {W2 : World} {v' : Value} (hs : Step W W1 w0.heap.size gm gb n' h' m' g' L L' M) (r : RM W2 w0.heap.size gq n' h' m' g' v' M) (hc : Chg W1 W2 (fun q => q = gq)) : BothK w0 ws Ls W2 gm gb gq n' h' m' g' L' v' :=
  ⟨b.toBoth.step hs r hc, (b.kch.trans hs.ch (fun q hq hf => by
    rcases b.kfm q hf with h1 | h1
    · exact .inl h1
    · omega)).trans hc (fun q _ hq => .inr hq), fun q hq => by
    rcases hs.fm q hq with h1 | h1
    · exact b.kfm q h1
    · exact .inr (Nat.le_trans b.kch.size h1)⟩
theorem BothK.mid (b : BothK w0 ws Ls W gm gb gq n h m g L v) {n' : Nat} {h' m' g' : Int} {L' : List (Ent Int)} {M : KV} (hs : Step W W1 w0.heap.size gm gb n' h' m' g' L L' M) : RM W1 w0.heap.size gq n h m g v (kv L) := b.toBoth.mid hs
theorem BothK.blk (b : BothK w0 ws Ls W gm gb gq n h m g L v) {q : Nat} {o : Obj} (h : ws.heap[q]? = some o) (h1 : ¬ FM gm gb Ls q) (h2 : q ≠ gq) : W.heap[q]? = some o := b.kch.blk h (fun e => e.elim h1 h2)
theorem BothK.uniq (b : BothK w0 ws Ls W gm gb gq n h m g L v) : KUniq (kv L) := b.toBoth.uniq
end
set_option maxRecDepth 100000 in
set_option maxHeartbeats 8000000 in
theorem does_kept (w0 ws : World) (Ls : List (Ent Int)) (W0 : World) (gm gb gq n : Nat) (h m g : Int) (L : List (Ent Int)) (v : Value) (c : Nat) (p : ActL) (A1 : Option Addr) (c1 : Nat) (hBo : BothK w0 ws Ls W0 gm gb gq n h m g L v) (hco : Cb c h m g) (hc : c ≤ 100000000000000) (hoko : ActOk p) (hPo : KeysRd w0 A1 p.keys) :
    Calls Try.prog 18 #[.pointer (some ⟨gm, 0, none⟩), .pointer (some ⟨gq, 0, none⟩), .agg #[.int .i64 p.kind, .int .i64 p.k, .int .i64 p.v, .slice A1 p.keys.length c1]] W0 fun e w' => e = .returned (.bool true) ∧ ∃ n' h' m' g' L' v', BothK w0 ws Ls w' gm gb gq n' h' m' g' L' v' ∧ Cb (c + 1) h' m' g' := by
  have hB := Lib.hid hBo
  have hcb := Lib.hid hco
  have hok := Lib.hid hoko
  have hP := Lib.hid hPo
  have hh0 := hBo.me.h0
  have hm0 := hBo.me.i0
  have hg0 := hBo.me.g0
  have hch := hco.h
  have hcm := hco.m
  have hcg := hco.g
  clear hBo hco hoko hPo
  go_enter Try.func18, Try.ntmps18
  go_wp2_with fail
  · have hac := heap_alloc_new W0 (.cells #[.int .i64 p.kind, .int .i64 p.k, .int .i64 p.v, .slice A1 p.keys.length c1] 30)
    have hfm0 : ∀ q, FM gm gb L q → q ≠ W0.heap.size := fun q hq he => by have := (hB.out.me.fm q hq).2; omega
    have hgaq0 : W0.heap.size ≠ gq := fun he => by have := blk_lt hB.out.r.q; omega
    replace hB := Lib.hid (hB.out.thin (below_alloc (Below.refl _ W0) (.cells #[.int .i64 p.kind, .int .i64 p.k, .int .i64 p.v, .slice A1 p.keys.length c1] 30)))
    obtain ⟨W, hW⟩ : ∃ W, W = W0.alloc (.cells #[.int .i64 p.kind, .int .i64 p.k, .int .i64 p.v, .slice A1 p.keys.length c1] 30) := ⟨_, rfl⟩
    obtain ⟨ga, hga⟩ : ∃ ga, ga = W0.heap.size := ⟨_, rfl⟩
    rw [← hga] at hac hfm0 hgaq0
    rw [← hW] at hB hac ⊢
    try rw [← hga]
    have hfm := hfm0
    have hgaq := hgaq0
    clear hW hga hfm0 hgaq0
    have hg := Get_kv W w0.heap.size gm gb n h m g L p.k hB.out.me hok.out.k.ok (by omega) (by omega)
    have hU := Lib.hid hB.out.uniq
    obtain ⟨z, hz⟩ : ∃ z, z = (kvLook p.k (kv L)).getD 0 := ⟨_, rfl⟩
    obtain ⟨b, hb⟩ : ∃ b, b = (kvLook p.k (kv L)).isSome := ⟨_, rfl⟩
    rw [← hz, ← hb] at hg
    refine hg.mono ?_
    clear hg
    rintro e w4 ⟨rfl, L', hs⟩
    have q1 := blk_cell (hs.ch.blk hac (fun hf => hfm _ hf rfl)) 1
    simp only [List.getElem?_toArray, List.getElem?_cons_zero, List.getElem?_cons_succ] at q1
    have hg2 := RGet_kv w4 w0.heap.size gq n h m g v (kv L) p.k (hB.out.mid hs) hU.out hh0 (by omega) hm0 (by omega)
    rw [← hz, ← hb] at hg2
    have t1 : (z == z) = true := by simp
    have t2 : (b == b) = true := by simp
    replace hs := Lib.hid hs
    replace hz := Lib.hid hz
    replace hb := Lib.hid hb
    replace hg2 := Lib.hid hg2
    go_wp2_with fail
    refine hg2.out.mono ?_
    clear hg2
    rintro e w5 ⟨rfl, v5, r5, hc5⟩
    have hB5 := Lib.hid (hB.out.step hs.out r5 hc5)
    clear r5 hc5 hs hB hac
    go_wp2_with fail
    go_ret
    exact ⟨rfl, _, _, _, _, _, _, hB5.out, hcb.out.get _⟩
  · have hac := heap_alloc_new W0 (.cells #[.int .i64 p.kind, .int .i64 p.k, .int .i64 p.v, .slice A1 p.keys.length c1] 30)
    have hfm0 : ∀ q, FM gm gb L q → q ≠ W0.heap.size := fun q hq he => by have := (hB.out.me.fm q hq).2; omega
    have hgaq0 : W0.heap.size ≠ gq := fun he => by have := blk_lt hB.out.r.q; omega
    replace hB := Lib.hid (hB.out.thin (below_alloc (Below.refl _ W0) (.cells #[.int .i64 p.kind, .int .i64 p.k, .int .i64 p.v, .slice A1 p.keys.length c1] 30)))
    obtain ⟨W, hW⟩ : ∃ W, W = W0.alloc (.cells #[.int .i64 p.kind, .int .i64 p.k, .int .i64 p.v, .slice A1 p.keys.length c1] 30) := ⟨_, rfl⟩
    obtain ⟨ga, hga⟩ : ∃ ga, ga = W0.heap.size := ⟨_, rfl⟩
    rw [← hga] at hac hfm0 hgaq0
    rw [← hW] at hB hac ⊢
    try rw [← hga]
    have hfm := hfm0
    have hgaq := hgaq0
    clear hW hga hfm0 hgaq0
    have hg := Look_kv W w0.heap.size gm gb n h m g L p.k hB.out.me hok.out.k.ok
    have hg2 := RLook_kv W w0.heap.size gq n h m g v (kv L) p.k hB.out.r hB.out.uniq
    obtain ⟨z, hz⟩ : ∃ z, z = (kvLook p.k (kv L)).getD 0 := ⟨_, rfl⟩
    obtain ⟨b, hb⟩ : ∃ b, b = (kvLook p.k (kv L)).isSome := ⟨_, rfl⟩
    rw [← hz, ← hb] at hg hg2
    refine hg.mono ?_
    clear hg
    rintro e w4 ⟨rfl, rfl⟩
    have q1 := blk_cell hac 1
    simp only [List.getElem?_toArray, List.getElem?_cons_zero, List.getElem?_cons_succ] at q1
    have t1 : (z == z) = true := by simp
    have t2 : (b == b) = true := by simp
    replace hz := Lib.hid hz
    replace hb := Lib.hid hb
    replace hg2 := Lib.hid hg2
    go_wp2_with fail
    refine hg2.out.mono ?_
    clear hg2
    rintro e w5 ⟨rfl, rfl⟩
    clear hac
    go_wp2_with fail
    go_ret
    exact ⟨rfl, _, _, _, _, _, _, hB.out, hcb.out.look⟩
  · have hac := heap_alloc_new W0 (.cells #[.int .i64 p.kind, .int .i64 p.k, .int .i64 p.v, .slice A1 p.keys.length c1] 30)
    have hfm0 : ∀ q, FM gm gb L q → q ≠ W0.heap.size := fun q hq he => by have := (hB.out.me.fm q hq).2; omega
    have hgaq0 : W0.heap.size ≠ gq := fun he => by have := blk_lt hB.out.r.q; omega
    replace hB := Lib.hid (hB.out.thin (below_alloc (Below.refl _ W0) (.cells #[.int .i64 p.kind, .int .i64 p.k, .int .i64 p.v, .slice A1 p.keys.length c1] 30)))
    obtain ⟨W, hW⟩ : ∃ W, W = W0.alloc (.cells #[.int .i64 p.kind, .int .i64 p.k, .int .i64 p.v, .slice A1 p.keys.length c1] 30) := ⟨_, rfl⟩
    obtain ⟨ga, hga⟩ : ∃ ga, ga = W0.heap.size := ⟨_, rfl⟩
    rw [← hga] at hac hfm0 hgaq0
    rw [← hW] at hB hac ⊢
    try rw [← hga]
    have hfm := hfm0
    have hgaq := hgaq0
    clear hW hga hfm0 hgaq0
    have hg := Put_kv W w0.heap.size gm gb n h m g L p.k p.v n rfl hB.out.bel.size hB.out.me hok.out.k.ok (by omega)
    have hU := Lib.hid hB.out.uniq
    obtain ⟨z, hz⟩ : ∃ z, z = (kvOut n p.k (kv L)).getD 0 := ⟨_, rfl⟩
    obtain ⟨b, hb⟩ : ∃ b, b = (kvOut n p.k (kv L)).isSome := ⟨_, rfl⟩
    rw [← hz, ← hb] at hg
    refine hg.mono ?_
    clear hg
    rintro e w4 ⟨rfl, L', hs⟩
    have q1 := blk_cell (hs.ch.blk hac (fun hf => hfm _ hf rfl)) 1
    have q2 := blk_cell (hs.ch.blk hac (fun hf => hfm _ hf rfl)) 2
    simp only [List.getElem?_toArray, List.getElem?_cons_zero, List.getElem?_cons_succ] at q1 q2
    have hg2 := RPut_kv w4 w0.heap.size gq n h m g v (kv L) p.k p.v n rfl (by have := hB.out.me.m1; omega) (hB.out.mid hs) hU.out (by rw [kv_len]; have := hB.out.me.ln; omega) (by have := hB.out.me.m2; omega) hg0 (by omega)
    rw [← hz, ← hb] at hg2
    have t1 : (z == z) = true := by simp
    have t2 : (b == b) = true := by simp
    replace hs := Lib.hid hs
    replace hz := Lib.hid hz
    replace hb := Lib.hid hb
    replace hg2 := Lib.hid hg2
    go_wp2_with fail
    refine hg2.out.mono ?_
    clear hg2
    rintro e w5 ⟨rfl, v5, r5, hc5⟩
    have hB5 := Lib.hid (hB.out.step hs.out r5 hc5)
    clear r5 hc5 hs hB hac
    go_wp2_with fail
    go_ret
    exact ⟨rfl, _, _, _, _, _, _, hB5.out, hcb.out.put _⟩
  · have hac := heap_alloc_new W0 (.cells #[.int .i64 p.kind, .int .i64 p.k, .int .i64 p.v, .slice A1 p.keys.length c1] 30)
    have hfm0 : ∀ q, FM gm gb L q → q ≠ W0.heap.size := fun q hq he => by have := (hB.out.me.fm q hq).2; omega
    have hgaq0 : W0.heap.size ≠ gq := fun he => by have := blk_lt hB.out.r.q; omega
    replace hB := Lib.hid (hB.out.thin (below_alloc (Below.refl _ W0) (.cells #[.int .i64 p.kind, .int .i64 p.k, .int .i64 p.v, .slice A1 p.keys.length c1] 30)))
    obtain ⟨W, hW⟩ : ∃ W, W = W0.alloc (.cells #[.int .i64 p.kind, .int .i64 p.k, .int .i64 p.v, .slice A1 p.keys.length c1] 30) := ⟨_, rfl⟩
    obtain ⟨ga, hga⟩ : ∃ ga, ga = W0.heap.size := ⟨_, rfl⟩
    rw [← hga] at hac hfm0 hgaq0
    rw [← hW] at hB hac ⊢
    try rw [← hga]
    have hfm := hfm0
    have hgaq := hgaq0
    clear hW hga hfm0 hgaq0
    have x3 : W.cell? ⟨ga, 3, none⟩ = some (.slice A1 p.keys.length c1) := blk_cell hac 3
    have hBd : Hid (BothK w0 ws Ls W.drew gm gb gq n h m g L v) := hB.out.drewN 1
    have hdr := Lib.hid (Drop_kv W.drew w0.heap.size gm gb n h m g L A1 c1 p.keys hBd.out.me hok.out.keys hP.out.2.1 (fun W2 hc => hP.out.below (hBd.out.bel.trans (hc.below hBd.out.bel.size (fun q hq => (hBd.out.me.fm q hq).1)))))
    obtain ⟨z, hz⟩ : ∃ z : Int, z = (kv L).length - (kvDrops p.keys (kv L)).length := ⟨_, rfl⟩
    rw [← hz] at hdr
    replace hz := Lib.hid hz
    have t1 : (z == z) = true := by simp
    refine start_ (n := 10) (S := fun w' => w'.cell? ⟨ga, 3, none⟩ = some (.slice A1 p.keys.length c1)) (ds := []) #[false, false, false, false, false, false, false, false, false, false] (by kernel_rfl) rfl rfl (x3) (fun hHeld => ?_)
    refine pure_ (i := 0) (N := some 106) (v := ?_) (a' := ?_) #[true, false, false, false, false, false, false, false, false, false] rfl rfl (by kernel_rfl) (fun _ _ _ h => h) (Or.inl ⟨by rfl, ?_⟩) ?_ ?_
    rotate_left
    · intro w'
      go_simp
      with_reducible rfl
    rotate_left
    · simp only [Act.put, List.setIfInBounds_toArray, List.set_cons_zero, List.set_cons_succ, i64_w, i32_w]
      rfl
    refine pure_ (i := 1) (N := some 107) (v := ?_) (a' := ?_) #[true, true, false, false, false, false, false, false, false, false] rfl rfl (by kernel_rfl) (fun _ _ _ h => h) (Or.inl ⟨by rfl, ?_⟩) ?_ ?_
    rotate_left
    · intro w'
      go_simp
      with_reducible rfl
    rotate_left
    · simp only [Act.put, List.setIfInBounds_toArray, List.set_cons_zero, List.set_cons_succ, i64_w, i32_w]
      rfl
    refine pure_ (i := 4) (N := some 110) (v := ?_) (a' := ?_) #[true, true, false, false, true, false, false, false, false, false] rfl rfl (by kernel_rfl) (fun _ _ _ h => h) (Or.inl ⟨by rfl, ?_⟩) ?_ ?_
    rotate_left
    · intro w'
      go_simp
      with_reducible rfl
    rotate_left
    · simp only [Act.put, List.setIfInBounds_toArray, List.set_cons_zero, List.set_cons_succ, i64_w, i32_w]
      rfl
    refine pure_ (i := 5) (N := some 111) (v := ?_) (a' := ?_) #[true, true, false, false, true, true, false, false, false, false] rfl rfl (by kernel_rfl) (fun _ _ _ h => h) (Or.inl ⟨by rfl, ?_⟩) ?_ ?_
    rotate_left
    · intro w'
      go_simp
      with_reducible rfl
    rotate_left
    · simp only [Act.put, List.setIfInBounds_toArray, List.set_cons_zero, List.set_cons_succ, i64_w, i32_w]
      rfl
    refine take_ (i := 2) (N := some 108) (v := ?_) (a' := ?_) #[true, true, true, false, true, true, false, false, false, false] rfl rfl (by kernel_rfl) (fun _ _ _ h => h) (Or.inl ⟨by rfl, ?_⟩) hHeld ?_ ?_
    rotate_left
    · intro w' s0
      go_simp
      with_reducible rfl
    rotate_left
    · simp only [Act.put, List.setIfInBounds_toArray, List.set_cons_zero, List.set_cons_succ, i64_w, i32_w]
      rfl
    refine take_ (i := 6) (N := some 112) (v := ?_) (a' := ?_) #[true, true, true, false, true, true, true, false, false, false] rfl rfl (by kernel_rfl) (fun _ _ _ h => h) (Or.inl ⟨by rfl, ?_⟩) hHeld ?_ ?_
    rotate_left
    · intro w' s0
      go_simp
      with_reducible rfl
    rotate_left
    · simp only [Act.put, List.setIfInBounds_toArray, List.set_cons_zero, List.set_cons_succ, i64_w, i32_w]
      rfl
    refine one_ (i := 3) (N := some 109) #[true, true, true, true, true, true, true, false, false, false] rfl rfl (by kernel_rfl) (by decide) (fun K hK => ?_)
    refine goes_ Try.func14 (by kernel_rfl) rfl #[.pointer (some ⟨gm, 0, none⟩), .slice A1 p.keys.length c1] (by rfl) rfl rfl (by simp only [List.map_toArray, List.map_cons, List.map_nil]; rfl) ?_
    with_reducible refine (hdr.out).mono ?_
    rintro e w4 ⟨rfl, L', hs⟩
    refine ⟨_, rfl, ?_⟩
    have hR4 := Lib.hid (hBd.out.mid hs)
    have hU := Lib.hid hBd.out.uniq
    have hdr2 := Lib.hid (RDrop_calls w4 w0.heap.size gq n h m g v (kv L) hR4.out hU.out A1 c1 p.keys hP.out.2.1 (fun W2 hc => hP.out.below ((Chg.old hBd.out.me hs.ch hBd.out.bel hBd.out.bel.size).trans (hc.below (Nat.le_trans hBd.out.bel.size hs.ch.size) (fun q hq => by rw [hq]; exact hBd.out.r.b)))))
    rw [← hz.out] at hdr2
    have hs1 := Lib.hid hs
    have x34 : w4.cell? ⟨ga, 3, none⟩ = some (.slice A1 p.keys.length c1) := blk_cell (hs.ch.blk (w := W.drew) hac (fun hf => hfm _ hf rfl)) 3
    refine hK.out _ _ (x34) (fun hHeld => ?_)
    clear hK K
    refine norm_ (a' := ?_) ?_ ?_
    rotate_left
    · show Act.put _ (some 109) _ = _
      simp only [Act.put, List.setIfInBounds_toArray, List.set_cons_zero, List.set_cons_succ, i64_w, i32_w]
      rfl
    refine one_ (i := 7) (N := some 113) #[true, true, true, true, true, true, true, true, false, false] rfl rfl (by kernel_rfl) (by decide) (fun K hK => ?_)
    refine goes_ Try.func21 (by kernel_rfl) rfl #[.pointer (some ⟨gq, 0, none⟩), .slice A1 p.keys.length c1] (by rfl) rfl rfl (by simp only [List.map_toArray, List.map_cons, List.map_nil]; rfl) ?_
    with_reducible refine (hdr2.out).mono ?_
    rintro e w5 ⟨rfl, v5, r5, hc5⟩
    refine ⟨_, rfl, ?_⟩
    have hB5 := Lib.hid (hBd.out.step hs1.out r5 hc5)
    have x35 : w5.cell? ⟨ga, 3, none⟩ = some (.slice A1 p.keys.length c1) := blk_cell (hc5.blk (hs1.out.ch.blk (w := W.drew) hac (fun hf => hfm _ hf rfl)) (fun e => hgaq e)) 3
    refine hK.out _ _ (x35) (fun hHeld => ?_)
    clear hK K
    refine norm_ (a' := ?_) ?_ ?_
    rotate_left
    · show Act.put _ (some 113) _ = _
      simp only [Act.put, List.setIfInBounds_toArray, List.set_cons_zero, List.set_cons_succ, i64_w, i32_w]
      rfl
    refine pure_ (i := 8) (N := some 114) (v := ?_) (a' := ?_) #[true, true, true, true, true, true, true, true, true, false] rfl rfl (by kernel_rfl) (fun _ _ _ h => h) (Or.inl ⟨by rfl, ?_⟩) ?_ ?_
    rotate_left
    · intro w'
      go_simp
      with_reducible rfl
    rotate_left
    · simp only [Act.put, List.setIfInBounds_toArray, List.set_cons_zero, List.set_cons_succ, i64_w, i32_w]
      rfl
    refine pure_ (i := 9) (N := some 6) (v := ?_) (a' := ?_) #[true, true, true, true, true, true, true, true, true, true] rfl rfl (by kernel_rfl) (fun _ _ _ h => h) (Or.inl ⟨by rfl, ?_⟩) ?_ ?_
    rotate_left
    · intro w'
      go_simp
      with_reducible rfl
    rotate_left
    · simp only [Act.put, List.setIfInBounds_toArray, List.set_cons_zero, List.set_cons_succ, i64_w, i32_w]
      rfl
    refine done_ (by kernel_rfl) ?_
    clear hHeld
    go_wp2_with fail
    go_ret
    exact ⟨by simp, _, _, _, _, _, _, hB5.out, hcb.out.look⟩
  · have hac := heap_alloc_new W0 (.cells #[.int .i64 p.kind, .int .i64 p.k, .int .i64 p.v, .slice A1 p.keys.length c1] 30)
    have hfm0 : ∀ q, FM gm gb L q → q ≠ W0.heap.size := fun q hq he => by have := (hB.out.me.fm q hq).2; omega
    have hgaq0 : W0.heap.size ≠ gq := fun he => by have := blk_lt hB.out.r.q; omega
    replace hB := Lib.hid (hB.out.thin (below_alloc (Below.refl _ W0) (.cells #[.int .i64 p.kind, .int .i64 p.k, .int .i64 p.v, .slice A1 p.keys.length c1] 30)))
    obtain ⟨W, hW⟩ : ∃ W, W = W0.alloc (.cells #[.int .i64 p.kind, .int .i64 p.k, .int .i64 p.v, .slice A1 p.keys.length c1] 30) := ⟨_, rfl⟩
    obtain ⟨ga, hga⟩ : ∃ ga, ga = W0.heap.size := ⟨_, rfl⟩
    rw [← hga] at hac hfm0 hgaq0
    rw [← hW] at hB hac ⊢
    try rw [← hga]
    have hfm := hfm0
    have hgaq := hgaq0
    clear hW hga hfm0 hgaq0
    by_cases hbad : p.v < 1 ∨ 4096 < p.v
    · refine (Resize_bad W w0.heap.size gm gb n h m g L p.v hB.out.me hbad).mono ?_
      rintro e w4 ⟨rfl, rfl⟩
      have q2 := blk_cell hac 2
      simp only [List.getElem?_toArray, List.getElem?_cons_zero, List.getElem?_cons_succ] at q2
      have hbad2 := Lib.hid hbad
      clear hbad
      go_wp2_with fail
      refine (RResize_bad W gq p.v hbad2.out).mono ?_
      rintro e w5 ⟨rfl, rfl⟩
      clear hac
      go_wp2_with (first | (go_at_call 23; go_must (refine (Same_calls W none none 0 0 [] (ReadsInt.nil _ _) (ReadsInt.nil _ _)).mono ?_); rintro e w6 ⟨rfl, nn, rfl⟩))
      go_ret
      exact ⟨rfl, _, _, _, _, _, _, hB.out.drewN nn, hcb.out.look⟩
    · obtain ⟨n2, hn2⟩ : ∃ n2 : Nat, p.v = n2 := ⟨p.v.toNat, by omega⟩
      have hcb0 := hcb.out.g
      have hrz := Resize_kv W w0.heap.size gm gb n h m g L n2 hB.out.me hB.out.bel.size (by omega) (by omega) (by omega)
      rw [hn2]
      refine hrz.mono ?_
      clear hrz
      rintro e w4 ⟨v4, rfl, ho4, L', hs⟩
      have q2 := blk_cell (hs.ch.blk hac (fun hf => hfm _ hf rfl)) 2
      simp only [List.getElem?_toArray, List.getElem?_cons_zero, List.getElem?_cons_succ] at q2
      rw [hn2] at q2
      have hrz2 := RResize_calls w4 w0.heap.size gq n h m g v (kv L) n2 (hB.out.mid hs) (Nat.le_trans hB.out.bel.size hs.ch.size) (by omega) (by omega) hg0 (by omega)
      obtain ⟨l0, hl0⟩ : ∃ l0, l0 = kvGone n2 (kv L) := ⟨_, rfl⟩
      rw [← hl0] at ho4 hrz2
      obtain ⟨A4, c4, rfl, -⟩ := own_rd ho4
      have hn2' := Lib.hid hn2
      have hl4 : L.length ≤ 4096 := by have := hB.out.me.ln; have := hB.out.me.m2; omega
      replace hs := Lib.hid hs
      replace ho4 := Lib.hid ho4
      replace hl0 := Lib.hid hl0
      replace hrz2 := Lib.hid hrz2
      clear hn2 hbad
      go_wp2_with fail
      refine hrz2.out.mono ?_
      clear hrz2
      rintro e w5 ⟨v5, rfl, ho5, vq, r5, hc5⟩
      obtain ⟨A5, c5, rfl, -⟩ := own_rd ho5
      have hB5 : Hid (BothK w0 ws Ls w5 gm gb gq n2 h m (g + (L.length - n2 : Nat)) L' vq) := hB.out.step hs.out (by rw [kv_len] at r5; exact r5) hc5
      have ho45 : Own w5 W.heap.size (.slice A4 l0.length c4) l0 := ho4.out.chg hc5 (fun k hk e => (ho4.out.apartR (hB.out.mid hs.out)) (by rw [hk, e]))
      have hk4 : KeysRd w5 A4 l0 := by
        obtain ⟨A', c', he, hr⟩ := own_rd ho45
        injection he with he1 he2 he3
        subst he1
        exact hr
      have hk5 : KeysRd w5 A5 l0 := by
        obtain ⟨A', c', he, hr⟩ := own_rd ho5
        injection he with he1 he2 he3
        subst he1
        exact hr
      replace hk4 := Lib.hid hk4
      replace hk5 := Lib.hid hk5
      clear ho45 ho5 r5 hc5 ho4 hs hac
      go_wp2_with (first | (go_at_call 23; go_must (refine (Same_calls w5 A4 A5 c4 c5 l0 hk4.out hk5.out).mono ?_); rintro e w6 ⟨rfl, nn, rfl⟩))
      go_ret
      exact ⟨rfl, _, _, _, _, _, _, hB5.out.drewN nn, hcb.out.grow hl4⟩
  · replace hB := Lib.hid (hB.out.thin (below_alloc (Below.refl _ W0) (.cells #[.int .i64 p.kind, .int .i64 p.k, .int .i64 p.v, .slice A1 p.keys.length c1] 30)))
    go_ret
    exact ⟨rfl, _, _, _, _, _, _, hB.out, hcb.out.look⟩
end Go.Proofs.Ytecgbhiebaiokaa.G

/- LruWalks: the first of its ranges. -/
namespace Go.Proofs.Ytecgbhiebaiokaa.G
open Go.RowKit Go.Shelf Go.Proofs.YtecgbhiebaiokaaW.PrintWords Go.Proofs.YtecgbhiebaiokaaW.PrintLast Go.Proofs.YtecgbhiebaiokaaW.PrintMore
attribute [local go_sem] Oper.semAt_some
set_option linter.unusedSimpArgs false
set_option linter.unusedVariables false
/-- what stands in the block of a number -/
def findB (k : Nat) : Code → Option Code
  | .seq a b => match findB k a with
    | some c => some c
    | none => findB k b
  | .block i c => match Nat.beq i k with
    | true => some c
    | false => findB k c
  | .loop c => findB k c
  | .cond _ a b => match findB k a with
    | some c => some c
    | none => findB k b
  | .rangeFunc _ _ _ b => findB k b
  | _ => none
noncomputable def blockOf (k : Nat) : Code := ((Try.f6.body.bind (findB k)).getD .skip)
/-- M lies from A on, in blocks that S leaves alone -/
def RdS (W : World) (S : Nat → Prop) (A : Option Addr) (M : KV) : Prop := RdC W A M ∧ ∀ ad, A = some ad → ¬ S ad.block
theorem RdC.chg {W W1 : World} {S : Nat → Prop} {A : Option Addr} {M : KV} (h : RdC W A M) (hc : Chg W W1 S) (ha : ∀ ad, A = some ad → ¬ S ad.block) : RdC W1 A M :=
  ⟨h.1, fun hp => by obtain ⟨ad, e, hh⟩ := h.2 hp; exact ⟨ad, e, fun j u hj => hc.cell (hh j u hj) (by rw [add_block]; exact ha ad e)⟩⟩
set_option maxRecDepth 1000000 in
set_option maxHeartbeats 8000000 in
theorem walk1 (wz : World) (gr gl gw gp gn gk gv N c6 : Nat) (less : Int) (A6 : Option Addr) (M : KV) (hN : N = M.length) (hM : N ≤ 4096)
    (hgr : wz.heap[gr]? = some (.cells #[.bool false] 4 (0, 0))) (hgl : wz.heap[gl]? = some (.cells #[.int .i64 less] 3 (0, 0))) (hgp : wz.heap[gp]? = some (.cells #[.slice A6 N c6] 45 (0, 0))) (hgn : wz.heap[gn]? = some (.cells #[.int .i64 0] 3 (0, 0)))
    (hne0 : gr ≠ gn) (hne1 : gl ≠ gn) (hne2 : gp ≠ gn) (hrd : RdC wz A6 M) (hA : ∀ ad, A6 = some ad → ad.block ≠ gn) (hwk : Wk wz (fun q => q = gn ∨ wz.heap.size ≤ q) gk gv M) {u0 u1 u3 u4 u5 u7 u8 u9 u10 u11 u12 u15 u16 u18 u19 u20 u21 u22 u23 u24 u25 u26 u27 u28 u29 u30 u31 u32 u33 u34 u35 u36 u37 u38 u39 u40 u41 u42 u43 u44 u45 u46 u47 u48 u49 u50 u51 u52 u53 u54 u55 u56 u57 u58 u59 u60 u61 u62 u63 u64 u65 u66 u67 u68 u69 u70 u71 u72 u73 u74 u75 u76 u77 u78 u79 u80 u81 u82 u83 u84 u85 u86 u87 u89 u90 u91 u92 u93 u94 u95 u96 u97 u98 u99 u100 u101 u102 u103 u104 u105 u106 u107 u108 u109 u110 u111 u112 u113 u114 u115 u116 u117 u118 u119 u120 u121 u122 u123 u124 u125 u126 u127 u128 u129 u130 u131 u132 u133 u134 u135 u136 u137 u138 u139 u140 u141 u142 u143 u144 u145 u146 u147 u148 u149 u150 u151 u152 u153 u154 u155 u156 u157 u158 u159 u160 u161 u162 u163 u164 u165 u166 u167 u168 u169 u170 : Value} :
    (blockOf 4).wpIn Fence.wide 5 Try.prog (fun e a' W => (e = .normal ∨ e = .exit 4) ∧ ∃ D, a' = { tmps := #[u0, u1, .pointer (some ⟨gr, 0, none⟩), u3, u4, u5, .pointer (some ⟨gl, 0, none⟩), u7, u8, u9, u10, u11, u12, .pointer (some ⟨gw, 0, none⟩), .pointer (some ⟨gp, 0, none⟩), u15, u16, .pointer (some ⟨gn, 0, none⟩), u18, u19, u20, u21, u22, u23, u24, u25, u26, u27, u28, u29, u30, u31, u32, u33, u34, u35, u36, u37, u38, u39, u40, u41, u42, u43, u44, u45, u46, u47, u48, u49, u50, u51, u52, u53, u54, u55, u56, u57, u58, u59, u60, u61, u62, u63, u64, u65, u66, u67, u68, u69, u70, u71, u72, u73, u74, u75, u76, u77, u78, u79, u80, u81, u82, u83, u84, u85, u86, u87, .func (.func 35) #[] #[.pointer (some ⟨gk, 0, none⟩), .pointer (some ⟨gv, 0, none⟩)], u89, u90, u91, u92, u93, u94, u95, u96, u97, u98, u99, u100, u101, u102, u103, u104, u105, u106, u107, u108, u109, u110, u111, u112, u113, u114, u115, u116, u117, u118, u119, u120, u121, u122, u123, u124, u125, u126, u127, u128, u129, u130, u131, u132, u133, u134, u135, u136, u137, u138, u139, u140, u141, u142, u143, u144, u145, u146, u147, u148, u149, u150, u151, u152, u153, u154, u155, u156, u157, u158, u159, u160, u161, u162, u163, u164, u165, u166, u167, u168, u169, u170], defers := [{ target := .collected D, args := #[] }] } ∧ wz.heap.size ≤ D ∧ W.heap[D]? = some (.deferred (some [])) ∧ Chg wz W (fun q => q = gn))
      { tmps := #[u0, u1, .pointer (some ⟨gr, 0, none⟩), u3, u4, u5, .pointer (some ⟨gl, 0, none⟩), u7, u8, u9, u10, u11, u12, .pointer (some ⟨gw, 0, none⟩), .pointer (some ⟨gp, 0, none⟩), u15, u16, .pointer (some ⟨gn, 0, none⟩), u18, u19, u20, u21, u22, u23, u24, u25, u26, u27, u28, u29, u30, u31, u32, u33, u34, u35, u36, u37, u38, u39, u40, u41, u42, u43, u44, u45, u46, u47, u48, u49, u50, u51, u52, u53, u54, u55, u56, u57, u58, u59, u60, u61, u62, u63, u64, u65, u66, u67, u68, u69, u70, u71, u72, u73, u74, u75, u76, u77, u78, u79, u80, u81, u82, u83, u84, u85, u86, u87, .func (.func 35) #[] #[.pointer (some ⟨gk, 0, none⟩), .pointer (some ⟨gv, 0, none⟩)], u89, u90, u91, u92, u93, u94, u95, u96, u97, u98, u99, u100, u101, u102, u103, u104, u105, u106, u107, u108, u109, u110, u111, u112, u113, u114, u115, u116, u117, u118, u119, u120, u121, u122, u123, u124, u125, u126, u127, u128, u129, u130, u131, u132, u133, u134, u135, u136, u137, u138, u139, u140, u141, u142, u143, u144, u145, u146, u147, u148, u149, u150, u151, u152, u153, u154, u155, u156, u157, u158, u159, u160, u161, u162, u163, u164, u165, u166, u167, u168, u169, u170], defers := [] } wz := by
  have hgnl : gn < wz.heap.size := blk_lt hgn
  conv => arg 4; whnf
  refine wpIn_rangeFunc_ownF rfl (by omega) (gf := 35) (lb := #[.pointer (some ⟨gk, 0, none⟩), .pointer (some ⟨gv, 0, none⟩)]) rfl trivial (enters_of Try.func35 (by kernel_rfl) rfl)
    (all_stops Fence.wide (5 - 1) trivial rfl (by omega) gk gv (fun q => q = gn ∨ wz.heap.size ≤ q) M (by omega) wz hwk)
    (fun {A B C} h k => h.trans k (fun _ _ h => h)) (fun W l o o' hl ho _ _ => ⟨rfl, rfl, rfl, by simp, fun k hk hn => World.putObj_heap_other (fun e => hn (.inr (by omega)))⟩) (Below.refl _ _) (fun _ => rfl)
    (fun pre W => pre <+: M ∧ W.heap[gn]? = some (.cells #[.int .i64 pre.length] 3 (0, 0)) ∧ Chg wz W (fun q => q = gn))
    (fun c pre W => (c = .ret ∧ ¬ pre <+: M) ∨ (c = .exit 4 ∧ Chg wz W (fun q => q = gn)))
    (fun pre A B row hs hg hr => ⟨hs.1, blk_grown hs.2.1 hg (fun e => by have := (hr gn e.symm).1; omega), hs.2.2.trans (Chg.of_grown hg) (fun q hq e => by have := (hr q e.symm).1; omega)⟩)
    (fun c pre A B row hs hg hr => hs.elim (fun h => .inl h) (fun h => .inr ⟨h.1, h.2.trans (Chg.of_grown hg) (fun q hq e => by have := (hr q e.symm).1; omega)⟩))
    ⟨List.nil_prefix, hgn, Chg.refl _ _⟩
    (fun x => { tmps := #[u0, u1, .pointer (some ⟨gr, 0, none⟩), u3, u4, u5, .pointer (some ⟨gl, 0, none⟩), u7, u8, u9, u10, u11, u12, .pointer (some ⟨gw, 0, none⟩), .pointer (some ⟨gp, 0, none⟩), u15, u16, .pointer (some ⟨gn, 0, none⟩), .int .i64 x.1, .int .i64 x.2, u20, u21, u22, u23, u24, u25, u26, u27, u28, u29, u30, u31, u32, u33, u34, u35, u36, u37, u38, u39, u40, u41, u42, u43, u44, u45, u46, u47, u48, u49, u50, u51, u52, u53, u54, u55, u56, u57, u58, u59, u60, u61, u62, u63, u64, u65, u66, u67, u68, u69, u70, u71, u72, u73, u74, u75, u76, u77, u78, u79, u80, u81, u82, u83, u84, u85, u86, u87, .func (.func 35) #[] #[.pointer (some ⟨gk, 0, none⟩), .pointer (some ⟨gv, 0, none⟩)], .int .i64 x.1, .int .i64 x.2, u91, u92, u93, u94, u95, u96, u97, u98, u99, u100, u101, u102, u103, u104, u105, u106, u107, u108, u109, u110, u111, u112, u113, u114, u115, u116, u117, u118, u119, u120, u121, u122, u123, u124, u125, u126, u127, u128, u129, u130, u131, u132, u133, u134, u135, u136, u137, u138, u139, u140, u141, u142, u143, u144, u145, u146, u147, u148, u149, u150, u151, u152, u153, u154, u155, u156, u157, u158, u159, u160, u161, u162, u163, u164, u165, u166, u167, u168, u169, u170], defers := [] }) ?assign ?body ?done ?stop
  case assign =>
    intro l x W K hK
    gi_wp2
    exact hK
  case body =>
    rintro l pre ⟨xa, xb⟩ W ⟨hpre, hn0, hc⟩ hlen
    have y2 : W.cell? ⟨gr, 0, none⟩ = some (.bool false) := blk_cell (hc.blk hgr hne0) 0
    have f2 := blk_frozen (hc.blk hgr hne0) 0
    have y6 : W.cell? ⟨gl, 0, none⟩ = some (.int .i64 less) := blk_cell (hc.blk hgl hne1) 0
    have y14 : W.cell? ⟨gp, 0, none⟩ = some (.slice A6 N c6) := blk_cell (hc.blk hgp hne2) 0
    have y17 : W.cell? ⟨gn, 0, none⟩ = some (.int .i64 pre.length) := blk_cell hn0 0
    have f17 := blk_frozen hn0 0
    obtain ⟨ad, rfl, hka, hva⟩ := (hrd.chg hc hA).at_ hlen
    obtain ⟨k0, hk0⟩ : ∃ k0, k0 = M[pre.length].1 := ⟨_, rfl⟩
    obtain ⟨v0, hv0⟩ : ∃ v0, v0 = M[pre.length].2 := ⟨_, rfl⟩
    rw [← hk0] at hka
    rw [← hv0] at hva
    have hget : Hid (M[pre.length] = (k0, v0)) := by show _ = _; rw [hk0, hv0]
    obtain ⟨p, hp⟩ : ∃ p, p = pre.length := ⟨_, rfl⟩
    have hpN : p < N := by rw [hp, hN]; exact hlen
    simp only [← hp] at y17 hka hva
    have hge : decide ((N : Int) ≤ (p : Int)) = false := by simp; omega
    have hlt : (p : Int) < (N : Int) := by omega
    have hnp : ¬ (N ≤ p) := by omega
    have hge2 : decide (N ≤ p) = false := by simp; omega
    replace hk0 := Lib.hid hk0
    replace hv0 := Lib.hid hv0
    replace hN := Lib.hid hN
    replace hp := Lib.hid hp
    replace hn0 := Lib.hid hn0
    replace hpre := Lib.hid hpre
    replace hrd := Lib.hid hrd
    replace hA := Lib.hid hA
    replace hwk := Lib.hid hwk
    replace hgr := Lib.hid hgr
    replace hgl := Lib.hid hgl
    replace hgp := Lib.hid hgp
    replace hgn := Lib.hid hgn
    have hlen2 := Lib.hid hlen

    by_cases t0 : ((p : Int) == less) = true
    · gi_wp2_with fail
      exact ⟨KeepsOthers.refl _, .inr ⟨rfl, hc⟩⟩
    · have t0' : ((p : Int) == less) = false := by simpa using t0
      clear t0
      by_cases t1 : (k0 == xa) = true
      · by_cases t2 : (v0 == xb) = true
        · have hpre2 : Hid (pre ++ [(xa, xb)] <+: M) := by
            have e1 : k0 = xa := eq_of_beq t1
            have e2 : v0 = xb := eq_of_beq t2
            have h3 := List.prefix_iff_eq_take.1 hpre.out
            show _ <+: _
            rw [h3, ← e1, ← e2, ← hget.out, ← List.take_succ_eq_append_getElem hlen2.out]
            exact List.take_prefix _ _
          have u1 : (k0 != xa) = false := by simp [bne, t1]
          have u2 : (v0 != xb) = false := by simp [bne, t2]
          gi_wp2_with fail
          refine ⟨KeepsOthers.setCell _ _ _, (Chg.refl W _).set_ (p := ⟨gn, 0, none⟩) (.inl rfl) _, hpre2.out, ?_, hc.set_ (p := ⟨gn, 0, none⟩) rfl _⟩
          have h6 := set_row hn0.out 0 (.int .i64 ((p : Int) + 1)) _ rfl
          rw [List.length_append, ← hp.out]
          exact h6
        · have t2' : (v0 == xb) = false := by simpa using t2
          have hno : Hid (¬ pre ++ [(xa, xb)] <+: M) := by
            intro h3
            have h4 := h3.getElem (i := pre.length) (by simp)
            rw [hget.out] at h4
            simp at h4
            exact t2 (by simp [h4.2])
          have u1 : (k0 != xa) = false := by simp [bne, t1]
          have u2 : (v0 != xb) = true := by simp [bne, t2']
          clear t2
          gi_wp2_with fail
          exact ⟨KeepsOthers.setCell _ _ _, .inl ⟨rfl, hno.out⟩⟩
      · have t1' : (k0 == xa) = false := by simpa using t1
        have hno : Hid (¬ pre ++ [(xa, xb)] <+: M) := by
          intro h3
          have h4 := h3.getElem (i := pre.length) (by simp)
          rw [hget.out] at h4
          simp at h4
          exact t1 (by simp [h4.1])
        have u1 : (k0 != xa) = true := by simp [bne, t1']
        clear t1
        gi_wp2_with fail
        exact ⟨KeepsOthers.setCell _ _ _, .inl ⟨rfl, hno.out⟩⟩
  case done =>
    rintro D ys W hD rfl ⟨-, hn0, hc⟩ hK
    exact ⟨.inl rfl, D, rfl, hD, hK, hc⟩
  case stop =>
    rintro D c pre W hD hSp hIx hK
    rcases hIx with ⟨rfl, hno⟩ | ⟨rfl, hc⟩
    · exact absurd hSp hno
    · gi_wp2
end Go.Proofs.Ytecgbhiebaiokaa.G

/- LruWalks: the second of its ranges, with one inside it. -/
namespace Go.Proofs.Ytecgbhiebaiokaa.G
open Go.RowKit Go.Shelf Go.Proofs.YtecgbhiebaiokaaW.PrintWords Go.Proofs.YtecgbhiebaiokaaW.PrintLast Go.Proofs.YtecgbhiebaiokaaW.PrintMore
attribute [local go_sem] Oper.semAt_some
set_option linter.unusedSimpArgs false
set_option linter.unusedVariables false
set_option maxRecDepth 1000000 in
set_option maxHeartbeats 8000000 in
theorem walk2 (wz : World) (D1 gr gw gp ga gq2 gk gv N c6 : Nat) (A6 : Option Addr) (M : KV) (hN : N = M.length) (hM : N ≤ 4096)
    (hgr : wz.heap[gr]? = some (.cells #[.bool false] 4 (0, 0))) (hgw : wz.heap[gw]? = some (.cells #[.func (.func 35) #[] #[.pointer (some ⟨gk, 0, none⟩), .pointer (some ⟨gv, 0, none⟩)]] 53 (0, 0))) (hgp : wz.heap[gp]? = some (.cells #[.slice A6 N c6] 45 (0, 0))) (hga : wz.heap[ga]? = some (.cells #[.int .i64 0] 3 (0, 0))) (hgq : wz.heap[gq2]? = some (.cells #[.int .i64 0] 3 (0, 0)))
    (hna : ga ≠ gq2) (hn0 : gr ≠ ga) (hn1 : gr ≠ gq2) (hn2 : gp ≠ ga) (hn3 : gp ≠ gq2) (hn4 : gw ≠ ga) (hn5 : gw ≠ gq2) (hrd : RdC wz A6 M) (hA : ∀ ad, A6 = some ad → ad.block ≠ ga ∧ ad.block ≠ gq2) (hwk : Wk wz (fun q => q = ga ∨ q = gq2 ∨ wz.heap.size ≤ q) gk gv M) {u0 u1 u3 u4 u5 u6 u7 u8 u9 u10 u11 u12 u15 u16 u17 u18 u19 u22 u23 u24 u25 u26 u27 u28 u29 u30 u31 u32 u33 u34 u35 u36 u37 u38 u39 u40 u41 u42 u43 u44 u45 u46 u47 u48 u49 u50 u51 u52 u53 u54 u55 u56 u57 u58 u59 u60 u61 u62 u63 u64 u65 u66 u67 u68 u69 u70 u71 u72 u73 u74 u75 u76 u77 u78 u79 u80 u81 u82 u83 u84 u85 u86 u87 u88 u89 u90 u91 u92 u93 u94 u95 u96 u97 u98 u99 u100 u101 u102 u103 u104 u105 u106 u107 u108 u109 u110 u111 u112 u113 u114 u115 u116 u117 u119 u120 u121 u122 u123 u124 u125 u126 u127 u128 u129 u130 u131 u132 u133 u134 u135 u136 u137 u138 u139 u140 u141 u142 u143 u144 u145 u146 u147 u148 u149 u150 u151 u152 u153 u154 u155 u156 u157 u158 u159 u160 u161 u162 u163 u164 u165 u166 u167 u168 u169 u170 : Value} :
    (blockOf 6).wpIn Fence.wide 5 Try.prog (fun e a' W => e = .normal ∧ ∃ D, a' = { tmps := #[u0, u1, .pointer (some ⟨gr, 0, none⟩), u3, u4, u5, u6, u7, u8, u9, u10, u11, u12, .pointer (some ⟨gw, 0, none⟩), .pointer (some ⟨gp, 0, none⟩), u15, u16, u17, u18, u19, .pointer (some ⟨ga, 0, none⟩), .pointer (some ⟨gq2, 0, none⟩), u22, u23, u24, u25, u26, u27, u28, u29, u30, u31, u32, u33, u34, u35, u36, u37, u38, u39, u40, u41, u42, u43, u44, u45, u46, u47, u48, u49, u50, u51, u52, u53, u54, u55, u56, u57, u58, u59, u60, u61, u62, u63, u64, u65, u66, u67, u68, u69, u70, u71, u72, u73, u74, u75, u76, u77, u78, u79, u80, u81, u82, u83, u84, u85, u86, u87, u88, u89, u90, u91, u92, u93, u94, u95, u96, u97, u98, u99, u100, u101, u102, u103, u104, u105, u106, u107, u108, u109, u110, u111, u112, u113, u114, u115, u116, u117, .func (.func 35) #[] #[.pointer (some ⟨gk, 0, none⟩), .pointer (some ⟨gv, 0, none⟩)], u119, u120, u121, u122, u123, u124, u125, u126, u127, u128, u129, u130, u131, u132, u133, u134, u135, u136, u137, u138, u139, u140, u141, u142, u143, u144, u145, u146, u147, u148, u149, u150, u151, u152, u153, u154, u155, u156, u157, u158, u159, u160, u161, u162, u163, u164, u165, u166, u167, u168, u169, u170], defers := [{ target := .collected D, args := #[] }, { target := .collected D1, args := #[] }] } ∧ wz.heap.size ≤ D ∧ W.heap[D]? = some (.deferred (some [])) ∧ Chg wz W (fun q => q = ga ∨ q = gq2) ∧ W.heap[ga]? = some (.cells #[.int .i64 N] 3 (0, 0)) ∧ W.heap[gq2]? = some (.cells #[.int .i64 (min 6 N * N : Nat)] 3 (0, 0)))
      { tmps := #[u0, u1, .pointer (some ⟨gr, 0, none⟩), u3, u4, u5, u6, u7, u8, u9, u10, u11, u12, .pointer (some ⟨gw, 0, none⟩), .pointer (some ⟨gp, 0, none⟩), u15, u16, u17, u18, u19, .pointer (some ⟨ga, 0, none⟩), .pointer (some ⟨gq2, 0, none⟩), u22, u23, u24, u25, u26, u27, u28, u29, u30, u31, u32, u33, u34, u35, u36, u37, u38, u39, u40, u41, u42, u43, u44, u45, u46, u47, u48, u49, u50, u51, u52, u53, u54, u55, u56, u57, u58, u59, u60, u61, u62, u63, u64, u65, u66, u67, u68, u69, u70, u71, u72, u73, u74, u75, u76, u77, u78, u79, u80, u81, u82, u83, u84, u85, u86, u87, u88, u89, u90, u91, u92, u93, u94, u95, u96, u97, u98, u99, u100, u101, u102, u103, u104, u105, u106, u107, u108, u109, u110, u111, u112, u113, u114, u115, u116, u117, .func (.func 35) #[] #[.pointer (some ⟨gk, 0, none⟩), .pointer (some ⟨gv, 0, none⟩)], u119, u120, u121, u122, u123, u124, u125, u126, u127, u128, u129, u130, u131, u132, u133, u134, u135, u136, u137, u138, u139, u140, u141, u142, u143, u144, u145, u146, u147, u148, u149, u150, u151, u152, u153, u154, u155, u156, u157, u158, u159, u160, u161, u162, u163, u164, u165, u166, u167, u168, u169, u170], defers := [{ target := .collected D1, args := #[] }] } wz := by
  have hgal : ga < wz.heap.size := blk_lt hga
  have hgql : gq2 < wz.heap.size := blk_lt hgq
  have hkt : ∀ A B C : World, Chg A B (fun q => q = ga ∨ q = gq2 ∨ wz.heap.size ≤ q) → Chg B C (fun q => q = ga ∨ q = gq2 ∨ wz.heap.size ≤ q) → Chg A C (fun q => q = ga ∨ q = gq2 ∨ wz.heap.size ≤ q) := fun _ _ _ h k => h.trans k (fun _ _ h => h)
  have hkb : ∀ (W : World) (l : Nat) (o' : Obj), wz.heap.size ≤ l → Chg W (W.putObj l o') (fun q => q = ga ∨ q = gq2 ∨ wz.heap.size ≤ q) := fun W l o' hl => ⟨rfl, rfl, rfl, by simp, fun k hk hn => World.putObj_heap_other (fun e => hn (.inr (.inr (by omega))))⟩
  conv => arg 4; whnf
  refine wpIn_rangeFunc_ownH rfl (by omega) (gf := 35) (lb := #[.pointer (some ⟨gk, 0, none⟩), .pointer (some ⟨gv, 0, none⟩)]) rfl trivial (enters_of Try.func35 (by kernel_rfl) rfl)
    (all_stops Fence.wide (5 - 1) trivial rfl (by omega) gk gv (fun q => q = ga ∨ q = gq2 ∨ wz.heap.size ≤ q) M (by omega) wz hwk)
    (fun {A B C} h k => hkt A B C h k) (fun W l o o' hl ho _ _ => hkb W l o' hl) (Below.refl _ _) (fun _ => rfl)
    (fun pre W => pre <+: M ∧ W.heap[ga]? = some (.cells #[.int .i64 pre.length] 3 (0, 0)) ∧ W.heap[gq2]? = some (.cells #[.int .i64 (min 6 pre.length * M.length : Nat)] 3 (0, 0)) ∧ Chg wz W (fun q => q = ga ∨ q = gq2))
    (fun c pre W => ¬ pre <+: M)
    (fun pre A B row hs hg hr => ⟨hs.1, blk_grown hs.2.1 hg (fun e => by have := (hr ga e.symm).1; omega), blk_grown hs.2.2.1 hg (fun e => by have := (hr gq2 e.symm).1; omega), hs.2.2.2.trans (Chg.of_grown hg) (fun q hq e => by have := (hr q e.symm).1; omega)⟩)
    (fun c pre A B row hs hg hr => hs)
    ⟨List.nil_prefix, hga, by simpa using hgq, Chg.refl _ _⟩
    (fun (x : Int × Int) a' _ => a' = { tmps := #[u0, u1, .pointer (some ⟨gr, 0, none⟩), u3, u4, u5, u6, u7, u8, u9, u10, u11, u12, .pointer (some ⟨gw, 0, none⟩), .pointer (some ⟨gp, 0, none⟩), u15, u16, u17, u18, u19, .pointer (some ⟨ga, 0, none⟩), .pointer (some ⟨gq2, 0, none⟩), .int .i64 x.1, .int .i64 x.2, u24, u25, u26, u27, u28, u29, u30, u31, u32, u33, u34, u35, u36, u37, u38, u39, u40, u41, u42, u43, u44, u45, u46, u47, u48, u49, u50, u51, u52, u53, u54, u55, u56, u57, u58, u59, u60, u61, u62, u63, u64, u65, u66, u67, u68, u69, u70, u71, u72, u73, u74, u75, u76, u77, u78, u79, u80, u81, u82, u83, u84, u85, u86, u87, u88, u89, u90, u91, u92, u93, u94, u95, u96, u97, u98, u99, u100, u101, u102, u103, u104, u105, u106, u107, u108, u109, u110, u111, u112, u113, u114, u115, u116, u117, .func (.func 35) #[] #[.pointer (some ⟨gk, 0, none⟩), .pointer (some ⟨gv, 0, none⟩)], .int .i64 x.1, .int .i64 x.2, u121, u122, u123, u124, u125, u126, u127, u128, u129, u130, u131, u132, u133, u134, u135, u136, u137, u138, u139, u140, u141, u142, u143, u144, u145, u146, u147, u148, u149, u150, u151, u152, u153, u154, u155, u156, u157, u158, u159, u160, u161, u162, u163, u164, u165, u166, u167, u168, u169, u170], defers := [] })
    (fun _ _ _ _ _ _ hs _ _ => hs)
    ?assign ?body ?done ?stop
  case assign =>
    rintro l pre x W K hi hK
    gi_wp2
    exact hK _ _ (KeepsFrom.refl _ _) (Chg.refl _ _) hi rfl
  case body =>
    rintro l pre ⟨xa, xb⟩ a' W hl ⟨r, hr⟩ ⟨hpre, ha0, hq0, hc⟩ rfl hlen
    have y2 : W.cell? ⟨gr, 0, none⟩ = some (.bool false) := blk_cell (hc.blk hgr (by omega)) 0
    have f2 := blk_frozen (hc.blk hgr (by omega)) 0
    have y13 : W.cell? ⟨gw, 0, none⟩ = some (.func (.func 35) #[] #[.pointer (some ⟨gk, 0, none⟩), .pointer (some ⟨gv, 0, none⟩)]) := blk_cell (hc.blk hgw (by omega)) 0
    have y14 : W.cell? ⟨gp, 0, none⟩ = some (.slice A6 N c6) := blk_cell (hc.blk hgp (by omega)) 0
    have y20 : W.cell? ⟨ga, 0, none⟩ = some (.int .i64 pre.length) := blk_cell ha0 0
    have f20 := blk_frozen ha0 0
    obtain ⟨ad, rfl, hka, hva⟩ := (hrd.chg hc (fun ad e => by have := hA ad e; omega)).at_ hlen
    obtain ⟨k0, hk0⟩ : ∃ k0, k0 = M[pre.length].1 := ⟨_, rfl⟩
    obtain ⟨v0, hv0⟩ : ∃ v0, v0 = M[pre.length].2 := ⟨_, rfl⟩
    rw [← hk0] at hka
    rw [← hv0] at hva
    have hget : Hid (M[pre.length] = (k0, v0)) := by show _ = _; rw [hk0, hv0]
    obtain ⟨p, hp⟩ : ∃ p, p = pre.length := ⟨_, rfl⟩
    have hpN : p < N := by rw [hp, hN]; exact hlen
    simp only [← hp] at y20 hka hva
    have hge : decide ((N : Int) ≤ (p : Int)) = false := by simp; omega
    have hlt : (p : Int) < (N : Int) := by omega
    have hnp : ¬ (N ≤ p) := by omega
    have hge2 : decide (N ≤ p) = false := by simp; omega
    replace hk0 := Lib.hid hk0
    replace hv0 := Lib.hid hv0
    replace hN := Lib.hid hN
    replace hp := Lib.hid hp
    replace ha0 := Lib.hid ha0
    replace hq0 := Lib.hid hq0
    replace hpre := Lib.hid hpre
    replace hrd := Lib.hid hrd
    replace hA := Lib.hid hA
    replace hwk := Lib.hid hwk
    replace hgr := Lib.hid hgr
    replace hgw := Lib.hid hgw
    replace hgp := Lib.hid hgp
    replace hga := Lib.hid hga
    replace hgq := Lib.hid hgq
    replace hr := Lib.hid hr
    have hkt2 := Lib.hid hkt
    have hkb2 := Lib.hid hkb
    clear hkt hkb
    have hlen2 := Lib.hid hlen

    by_cases t1 : (k0 == xa) = true
    · by_cases t2 : (v0 == xb) = true
      · have hpre2 : Hid (pre ++ [(xa, xb)] <+: M) := by
          have e1 : k0 = xa := eq_of_beq t1
          have e2 : v0 = xb := eq_of_beq t2
          have h3 := List.prefix_iff_eq_take.1 hpre.out
          show _ <+: _
          rw [h3, ← e1, ← e2, ← hget.out, ← List.take_succ_eq_append_getElem hlen2.out]
          exact List.take_prefix _ _
        have nx1 : (k0 != xa) = false := by simp [bne, t1]
        have nx2 : (v0 != xb) = false := by simp [bne, t2]
        by_cases h6 : 6 < p + 1
        · have h6a : (6 : Int) < (p : Int) + 1 := by omega
          gi_wp2_with fail
          have hcG : Chg W (W.setCell ⟨ga, 0, none⟩ (.int .i64 ((p : Int) + 1))) (fun q => q = ga) := Chg.set_ (S := fun q => q = ga) (Chg.refl W _) (p := ⟨ga, 0, none⟩) rfl _
          have ha1 := set_row ha0.out 0 (.int .i64 ((p : Int) + 1)) _ rfl
          have hq1 := hcG.blk hq0.out (fun e => hna e.symm)
          have hk1 : KeepsFrom wz.heap.size W (W.setCell ⟨ga, 0, none⟩ (.int .i64 ((p : Int) + 1))) := (KeepsOthers.setCell _ _ _).from _
          refine ⟨hk1, hcG.mono (fun q _ h => .inl h), hpre2.out, ?_, ?_, hc.trans hcG (fun q _ h => .inl h)⟩
          · rw [List.length_append, ← hp.out]
            exact ha1
          · rw [List.length_append, show min 6 (pre.length + [(xa, xb)].length) = min 6 pre.length from by rw [← hp.out]; simp; omega]
            exact hq1
        · have h6a : ¬ (6 : Int) < (p : Int) + 1 := by omega
          gi_wp2_with fail
          have hcG : Chg W (W.setCell ⟨ga, 0, none⟩ (.int .i64 ((p : Int) + 1))) (fun q => q = ga) := Chg.set_ (S := fun q => q = ga) (Chg.refl W _) (p := ⟨ga, 0, none⟩) rfl _
          have ha1 := set_row ha0.out 0 (.int .i64 ((p : Int) + 1)) _ rfl
          have hq1 := hcG.blk hq0.out (fun e => hna e.symm)
          have hk1 : KeepsFrom wz.heap.size W (W.setCell ⟨ga, 0, none⟩ (.int .i64 ((p : Int) + 1))) := (KeepsOthers.setCell _ _ _).from _
          obtain ⟨s, hs⟩ : ∃ s, s = min 6 pre.length * M.length := ⟨_, rfl⟩
          have hs6 : s = p * N := by rw [hs, ← hp.out, ← hN.out, show min 6 p = p from by omega]
          have hsb : s ≤ 24576 := by rw [hs6]; exact Nat.le_trans (Nat.mul_le_mul (show p ≤ 6 by omega) hM) (by decide)
          rw [← hs] at hq1
          obtain ⟨Wi, hWi⟩ : ∃ Wi, Wi = W.setCell ⟨ga, 0, none⟩ (.int .i64 ((p : Int) + 1)) := ⟨_, rfl⟩
          rw [← hWi] at hcG ha1 hq1 hk1 ⊢
          have hrI : Wi.heap[l]? = some (.loop r) := hk1.same l _ hl hr.out rfl
          have hq1l : gq2 < Wi.heap.size := blk_lt hq1
          have hWs : wz.heap.size ≤ Wi.heap.size := Nat.le_trans hc.size hcG.size
          have hwi : Wk Wi (fun q => q = ga ∨ q = gq2 ∨ wz.heap.size ≤ q) gk gv M := (hwk.out.chg (hc.mono (fun q _ h => h.elim .inl (fun h => .inr (.inl h))))).chg (hcG.mono (fun q _ h => .inl h))
          clear hWi
          refine wpIn_rangeFunc_ownN (l₀ := l) (r₀ := r) rfl hrI (by omega) (gf := 35) (lb := #[.pointer (some ⟨gk, 0, none⟩), .pointer (some ⟨gv, 0, none⟩)]) rfl trivial (enters_of Try.func35 (by kernel_rfl) rfl)
            ((all_stops Fence.wide (5 - 1 - 1 - 1) trivial rfl (by omega) gk gv (fun q => q = ga ∨ q = gq2 ∨ wz.heap.size ≤ q) M (by have := hN.out; omega) Wi hwi).inRound l)
            (fun {A B C} h k => hkt2.out A B C h k) (fun W l o o' hl ho _ _ => hkb2.out W l o' (Nat.le_trans hWs hl)) (Below.refl _ _) (fun _ => rfl)
            (fun pre' W' => W'.heap[gq2]? = some (.cells #[.int .i64 (s + pre'.length : Nat)] 3 (0, 0)) ∧ Chg Wi W' (fun q => q = gq2) ∧ KeepsFrom wz.heap.size Wi W')
            (fun _ _ _ => False)
            (fun pre' A B row hs hg hr => ⟨blk_grown hs.1 hg (fun e => by have := (hr gq2 e.symm).1; omega), hs.2.1.trans (Chg.of_grown hg) (fun q hq e => by have := (hr q e.symm).1; omega), ownFrom_keepsFrom (Nat.le_refl _) pre' A B row hs.2.2 hg hr⟩)
            (fun _ _ _ _ _ hs _ _ => hs)
            ⟨hq1, Chg.refl _ _, KeepsFrom.refl _ _⟩
            (fun (y : Int × Int) a'' _ => a'' = { tmps := #[u0, u1, .pointer (some ⟨gr, 0, none⟩), u3, u4, u5, u6, u7, u8, u9, u10, u11, u12, .pointer (some ⟨gw, 0, none⟩), .pointer (some ⟨gp, 0, none⟩), u15, u16, u17, u18, u19, .pointer (some ⟨ga, 0, none⟩), .pointer (some ⟨gq2, 0, none⟩), .int .i64 xa, .int .i64 xb, u24, u25, u26, u27, u28, u29, u30, u31, u32, u33, u34, u35, u36, u37, u38, u39, u40, u41, u42, u43, u44, u45, u46, u47, u48, u49, u50, u51, u52, u53, u54, u55, u56, u57, u58, u59, u60, u61, u62, u63, u64, u65, u66, u67, u68, u69, u70, u71, u72, u73, u74, u75, u76, u77, u78, u79, u80, u81, u82, u83, u84, u85, u86, u87, u88, u89, u90, u91, u92, u93, u94, u95, u96, u97, u98, u99, u100, u101, u102, u103, u104, u105, u106, u107, u108, u109, u110, u111, u112, u113, u114, u115, u116, u117, .func (.func 35) #[] #[.pointer (some ⟨gk, 0, none⟩), .pointer (some ⟨gv, 0, none⟩)], .int .i64 xa, .int .i64 xb, .int .i64 (p : Int), .slice (some ad) N c6, .int .i64 (N : Int), .bool false, .bool false, .slice (some ad) N c6, .int .i64 (p : Int), .pointer (some (ad.add (p * 2))), .pointer (some (ad.add (p * 2))), .int .i64 k0, .int .i64 xa, .bool false, .bool false, .bool false, .slice (some ad) N c6, .int .i64 (p : Int), .pointer (some (ad.add (p * 2))), .pointer (some ⟨(ad.add (p * 2)).block, (ad.add (p * 2)).off + 1, none⟩), .int .i64 v0, .int .i64 xb, .bool false, .bool false, .int .i64 (p : Int), .int .i64 ((p : Int) + 1), .int .i64 ((p : Int) + 1), .bool false, .func (.func 35) #[] #[.pointer (some ⟨gk, 0, none⟩), .pointer (some ⟨gv, 0, none⟩)], .int .i64 y.1, .int .i64 y.2, u150, u151, u152, u153, u154, u155, u156, u157, u158, u159, u160, u161, u162, u163, u164, u165, u166, u167, u168, u169, u170], defers := [] })
            (fun _ _ _ _ _ _ hs _ _ => hs)
            ?assign2 ?body2 ?done2 ?stop2
          case assign2 =>
            rintro l2 pre' y W' K hi hK
            gi_wp2
            exact hK _ _ (KeepsFrom.refl _ _) (Chg.refl _ _) hi rfl
          case body2 =>
            rintro l2 pre' y a'' W' _ _ ⟨hq2, hc2, hk2⟩ rfl hlen3
            have y21 : W'.cell? ⟨gq2, 0, none⟩ = some (.int .i64 (s + pre'.length : Nat)) := blk_cell hq2 0
            have f21 := blk_frozen hq2 0
            obtain ⟨z, hz⟩ : ∃ z, z = s + pre'.length := ⟨_, rfl⟩
            rw [← hz] at y21
            have hzb : z < 100000 := by have := hN.out; omega
            replace hz := Lib.hid hz
            replace hq2 := Lib.hid hq2
            gi_wp2_with fail
            refine ⟨(KeepsOthers.setCell _ _ _).from _, (Chg.refl W' _).set_ (p := ⟨gq2, 0, none⟩) (.inr (.inl rfl)) _, ?_, hc2.set_ (p := ⟨gq2, 0, none⟩) rfl _, hk2.trans ((KeepsOthers.setCell _ _ _).from _)⟩
            have h6 := set_row hq2.out 0 (.int .i64 ((z : Int) + 1)) _ rfl
            rw [List.length_append, ← Nat.add_assoc, ← hz.out]
            exact h6
          case done2 =>
            rintro ys' W' rfl ⟨hq2, hc2, hk2⟩
            gi_wp2
            have ha2 := hc2.blk ha1 hna
            refine ⟨hk1.trans hk2, hkt2.out _ _ _ (hcG.mono (fun q _ h => .inl h)) (hc2.mono (fun q _ h => .inr (.inl h))), hpre2.out, ?_, ?_, (hc.trans hcG (fun q _ h => .inl h)).trans hc2 (fun q _ h => .inr h)⟩
            · rw [List.length_append, ← hp.out]
              exact ha2
            · rw [List.length_append, ← hp.out, show min 6 (p + [(xa, xb)].length) = p + 1 from by simp; omega, Nat.add_mul, Nat.one_mul, ← hN.out, ← hs6, hN.out]
              exact hq2
          case stop2 =>
            rintro c pre' W' _ h
            exact h.elim
      · have t2' : (v0 == xb) = false := by simpa using t2
        have hno : Hid (¬ pre ++ [(xa, xb)] <+: M) := by
          intro h3
          have h4 := h3.getElem (i := pre.length) (by simp)
          rw [hget.out] at h4
          simp at h4
          exact t2 (by simp [h4.2])
        have nx1 : (k0 != xa) = false := by simp [bne, t1]
        have nx2 : (v0 != xb) = true := by simp [bne, t2']
        clear t2
        gi_wp2_with fail
        exact ⟨(KeepsOthers.setCell _ _ _).from _, hno.out⟩
    · have t1' : (k0 == xa) = false := by simpa using t1
      have hno : Hid (¬ pre ++ [(xa, xb)] <+: M) := by
        intro h3
        have h4 := h3.getElem (i := pre.length) (by simp)
        rw [hget.out] at h4
        simp at h4
        exact t1 (by simp [h4.1])
      have nx1 : (k0 != xa) = true := by simp [bne, t1']
      clear t1
      gi_wp2_with fail
      exact ⟨(KeepsOthers.setCell _ _ _).from _, hno.out⟩
  case done =>
    rintro D ys W hD rfl ⟨-, ha0, hq0, hc⟩ hK
    exact ⟨rfl, D, rfl, hD, hK, hc, by rw [hN]; exact ha0, by rw [hN]; exact hq0⟩
  case stop =>
    rintro D c pre W hD hSp hIx hK
    exact absurd hSp hIx
end Go.Proofs.Ytecgbhiebaiokaa.G

/- LruWalks: what lies in memory where its ranges begin. -/
namespace Go.Proofs.Ytecgbhiebaiokaa.G
open Go.RowKit Go.Shelf Go.Proofs.YtecgbhiebaiokaaW.PrintWords Go.Proofs.YtecgbhiebaiokaaW.PrintLast Go.Proofs.YtecgbhiebaiokaaW.PrintMore
set_option linter.unusedSimpArgs false
set_option linter.unusedVariables false
theorem Wk.mono {W : World} {S S' : Nat → Prop} {gk gv : Nat} {M : KV} (k : Wk W S gk gv M) (h : ∀ q, S' q → S q) : Wk W S' gk gv M := by
  obtain ⟨⟨A, c, h1, h2, h3⟩, ⟨A', c', h4, h5, h6⟩, l1, l2⟩ := k
  exact ⟨⟨A, c, h1, h2, fun ad e hs => h3 ad e (h _ hs)⟩, ⟨A', c', h4, h5, fun ad e hs => h6 ad e (h _ hs)⟩, fun hs => l1 (h _ hs), fun hs => l2 (h _ hs)⟩
theorem gath_wk {wa w5 : World} {gk gv : Nat} {vk vv : Value} {L : List (Ent Int)} (hG : Gath wa w5 gk gv vk vv (keysOf L) (valsOf L)) (n : Nat) (hn : w5.heap.size ≤ n) : Wk w5 (fun q => q < wa.heap.size ∨ n ≤ q) gk gv (kv L) := by
  have hkk : keysOf L = (kv L).map (·.1) := by simp [keysOf, kv]
  have hvv : valsOf L = (kv L).map (·.2) := by simp [valsOf, kv]
  have hlk : (keysOf L).length = (kv L).length := by simp [keysOf, kv]
  have hlv : (valsOf L).length = (kv L).length := by simp [valsOf, kv]
  obtain ⟨A, c, he, hr⟩ := own_rd hG.ok
  obtain ⟨A', c', he', hr'⟩ := own_rd hG.ov
  have hg1 := hG.gk0
  have hg2 := hG.gv0
  have hgkl : gk < w5.heap.size := blk_lt hG.bk
  have hgvl : gv < w5.heap.size := blk_lt hG.bv
  refine ⟨⟨A, c, ?_, by rw [← hkk]; exact hr, fun ad ha => ?_⟩, ⟨A', c', ?_, by rw [← hvv]; exact hr', fun ad ha => ?_⟩, by omega, by omega⟩
  · have := blk_cell hG.bk 0
    rw [he, hlk] at this
    exact this
  · have h1 := own_base hG.ok ad.block (by rw [he, ha]; rfl)
    have h2 := own_lt hG.ok ad.block (by rw [he, ha]; rfl)
    omega
  · have := blk_cell hG.bv 0
    rw [he', hlv] at this
    exact this
  · have h1 := own_base hG.ov ad.block (by rw [he', ha]; rfl)
    have h2 := own_lt hG.ov ad.block (by rw [he', ha]; rfl)
    omega
theorem OwnP.place {w : World} {B n c : Nat} {A : Option Addr} {M : KV} (h : OwnP w B (.slice A n c) M) : ∀ ad, A = some ad → B ≤ ad.block ∧ ad.block < w.heap.size := by
  rintro ad rfl
  obtain ⟨-, ⟨he, -⟩ | ⟨g, cap, cur, he, hb, hh, -⟩⟩ := h
  · cases he
  · injection he with h1
    injection h1 with h1
    subst h1
    exact ⟨hb, blk_lt hh⟩
def wkF (gk gv : Nat) : Value := .func (.func 35) #[] #[.pointer (some ⟨gk, 0, none⟩), .pointer (some ⟨gv, 0, none⟩)]
/-- walk and was -/
structure Was (wa ws : World) (gw gp gk gv N c6 : Nat) (A6 : Option Addr) (M : KV) : Prop where
  hw : ws.heap[gw]? = some (.cells #[.func (.func 35) #[] #[.pointer (some ⟨gk, 0, none⟩), .pointer (some ⟨gv, 0, none⟩)]] 53 (0, 0))
  hp : ws.heap[gp]? = some (.cells #[.slice A6 N c6] 45 (0, 0))
  rd : RdC ws A6 M
  pl : ∀ ad, A6 = some ad → wa.heap.size ≤ ad.block ∧ ad.block < ws.heap.size
  wk : Wk ws (fun q => q < wa.heap.size ∨ ws.heap.size ≤ q) gk gv M
  gw0 : wa.heap.size ≤ gw
  gp0 : wa.heap.size ≤ gp
theorem was_made {wa w5 w6 : World} {gk gv N c6 : Nat} {vk vv : Value} {L : List (Ent Int)} {A6 : Option Addr} (hG : Gath wa w5 gk gv vk vv (keysOf L) (valsOf L)) (hbox : w6.heap[w5.heap.size]? = some (.cells #[.func (.func 35) #[] #[.pointer (some ⟨gk, 0, none⟩), .pointer (some ⟨gv, 0, none⟩)]] 53 (0, 0)))
    (ho : OwnP w6 wa.heap.size (.slice A6 N c6) (kv L)) (hr : RdC w6 A6 (kv L)) (hb : Below w5.heap.size w5 w6) : Was wa (w6.alloc (.cells #[.slice A6 N c6] 45)) w5.heap.size w6.heap.size gk gv N c6 A6 (kv L) := by
  have hb7 := below_alloc (Below.refl _ w6) (.cells #[.slice A6 N c6] 45)
  have hsz : (w6.alloc (.cells #[.slice A6 N c6] 45)).heap.size = w6.heap.size + 1 := by simp
  have h5 := hG.bel.size
  have h6 := hb.size
  refine ⟨blk_alloc hbox _, heap_alloc_new w6 _, hr.below hb7, fun ad e => ?_, ((gath_wk hG (w6.heap.size + 1) (by omega)).below hb).below hb7 |>.mono (fun q hq => by rw [hsz] at hq; exact hq), h5, by omega⟩
  have := ho.place ad e
  omega
theorem Both.lt {w0 W : World} {gm gb gq n : Nat} {h m g : Int} {L : List (Ent Int)} {v : Value} (b : Both w0 W gm gb gq n h m g L v) : ∀ q, (FM gm gb L q ∨ q = gq) → q < W.heap.size := by
  rintro q ((rfl | rfl | ⟨e, he, rfl⟩) | rfl)
  · exact blk_lt b.me.ch.mem
  · exact b.me.mp.lt
  · obtain ⟨j, hj, rfl⟩ := List.getElem_of_mem he
    exact blk_lt (b.me.ch.row j hj)
  · exact blk_lt b.r.q
/-- what the ranges read -/
structure Zed (W : World) (B : Nat) (gr gl gw gp gk gv N c6 : Nat) (less : Int) (A6 : Option Addr) (M : KV) : Prop where
  r : W.heap[gr]? = some (.cells #[.bool false] 4 (0, 0))
  l : W.heap[gl]? = some (.cells #[.int .i64 less] 3 (0, 0))
  w : W.heap[gw]? = some (.cells #[.func (.func 35) #[] #[.pointer (some ⟨gk, 0, none⟩), .pointer (some ⟨gv, 0, none⟩)]] 53 (0, 0))
  p : W.heap[gp]? = some (.cells #[.slice A6 N c6] 45 (0, 0))
  rd : RdC W A6 M
  wk : Wk W (fun q => B ≤ q) gk gv M
  lr : gr < B
  ll : gl < B
  lw : gw < B
  lp : gp < B
  la : ∀ ad, A6 = some ad → ad.block < B
theorem Zed.chg {W W1 : World} {B gr gl gw gp gk gv N c6 : Nat} {less : Int} {A6 : Option Addr} {M : KV} (z : Zed W B gr gl gw gp gk gv N c6 less A6 M) (hc : Chg W W1 (fun q => B ≤ q)) : Zed W1 B gr gl gw gp gk gv N c6 less A6 M :=
  ⟨hc.blk z.r (by have := z.lr; omega), hc.blk z.l (by have := z.ll; omega), hc.blk z.w (by have := z.lw; omega), hc.blk z.p (by have := z.lp; omega), z.rd.chg hc (fun ad e => by have := z.la ad e; omega), z.wk.chg hc, z.lr, z.ll, z.lw, z.lp, z.la⟩
theorem zed_made {wa ws wb : World} {gr gl gw gp gk gv N c6 : Nat} {less : Int} {A6 : Option Addr} {M : KV} (s : Was wa ws gw gp gk gv N c6 A6 M) (hc : Chg ws wb (fun q => q < wa.heap.size)) (hr : wb.heap[gr]? = some (.cells #[.bool false] 4 (0, 0))) (hl : wb.heap[gl]? = some (.cells #[.int .i64 less] 3 (0, 0))) (lr : gr < ws.heap.size) (ll : gl < ws.heap.size) : Zed wb ws.heap.size gr gl gw gp gk gv N c6 less A6 M := by
  have g0 := s.gw0
  have g1 := s.gp0
  exact ⟨hr, hl, hc.blk s.hw (by omega), hc.blk s.hp (by omega), s.rd.chg hc (fun ad e => by have := (s.pl ad e).1; omega), (s.wk.chg (hc.mono (fun q _ h => .inl h))).mono (fun q h => .inr h), lr, ll, blk_lt s.hw, blk_lt s.hp, fun ad e => (s.pl ad e).2⟩
end Go.Proofs.Ytecgbhiebaiokaa.G

/- The walk of the law LruWalks. -/
namespace Go.Proofs.Ytecgbhiebaiokaa.G
open Go.RowKit Go.Shelf Go.Proofs.YtecgbhiebaiokaaW.PrintWords Go.Proofs.YtecgbhiebaiokaaW.PrintLast Go.Proofs.YtecgbhiebaiokaaW.PrintMore
attribute [local go_sem] Oper.semAt_some
set_option linter.unusedSimpArgs false
set_option linter.unusedVariables false
theorem func_nil0 (d : Nat) (f : Fn) (a c : Array Value) (W : World) : (Op.equalIn (d + 1) 53 (.func f a c) .nilFunc).run Try.prog W = .ok false W := by
  simp [Op.equalIn, run_underlying Try.underlying53]
theorem func_nil (f : Fn) (a c : Array Value) (W : World) : (binOp .eql 53 (.func f a c) .nilFunc).run Try.prog W = .ok (.bool false) W := by
  simp only [binOp]
  simp [Op.equal, Op.maxDepth, func_nil0 9999]
theorem inBlock_both {id : Nat} {Q : Exit → Act → World → Prop} {e : Exit} {a : Act} {w : World} (he : e = .normal ∨ e = .exit id) (h : Q .normal a w) : Exit.inBlock id Q e a w := by
  rcases he with rfl | rfl
  · exact h
  · simp only [Exit.inBlock, if_true]
    exact h
theorem wrap_min {N pr : Nat} (h : N ≤ 4096) (e : pr = min 6 N * N) : wrap64 (min 6 (N : Int) * (N : Int)) = (pr : Int) := by
  have h1 : (min 6 (N : Int) * (N : Int)) = ((min 6 N * N : Nat) : Int) := by
    rw [Int.natCast_mul]
    congr 1
    omega
  have h2 : min 6 N * N ≤ 6 * 4096 := Nat.mul_le_mul (by omega) h
  rw [h1, ← e]
  rw [← e] at h2
  unfold wrap64
  omega
theorem below_putD {w W : World} (h : Below w.heap.size w W) {D : Nat} (hD : w.heap.size ≤ D) (o : Obj) : Below w.heap.size w (W.putObj D o) :=
  h.trans ⟨rfl, rfl, rfl, by simp, fun k hk => World.putObj_heap_other (by omega)⟩
variable (w : World)
set_option maxRecDepth 100000 in
set_option maxHeartbeats 8000000 in
theorem LruWalks_good (a : Nat) (less : Int) (A1 : Option Addr) (c1 : Nat) (ps later : List ActL) (A3 : Option Addr) (c3 : Nat) (x4 x5 : Value) (ha1 : 1 ≤ a) (ha2 : a ≤ 4096) (hr : ActsRd w A1 ps) (hlen2 : ps.length ≤ 10000000000000) (hr3 : ActsRd w A3 later) (hlen3 : later.length ≤ 10000000000000) :
    Calls Try.prog 6 #[.agg #[.int .i64 a, .int .i64 less, .slice A1 ps.length c1, .slice A3 later.length c3, x4, x5]] w fun e w' => e = .returned (.bool true) ∧ Below w.heap.size w w' := by
  have HR := Lib.hid hr
  have HR3 := Lib.hid hr3
  have hlen := hr.1
  have hlen3' := hr3.1
  clear hr hr3
  refine (callsIn_wide (n := 5)).1 ?_
  refine callsIn_of_wp_marks Try.func6 rfl trivial ?_ rfl
  simp only [Try.ntmps6, List.size_toArray, List.length_cons, List.length_nil, Nat.reduceAdd, Nat.reduceSub, Array.replicate_succ, Array.replicate_zero, List.push_toArray, List.append_toArray, List.nil_append, List.cons_append]
  refine wpIn_wide.2 ?_
  go_wp2_with fail
  have hac := blk_alloc (heap_alloc_new w (.cells #[.int .i64 a, .int .i64 less, .slice A1 ps.length c1, .slice A3 later.length c3, x4, x5] 44)) (.cells #[.bool false] 4)
  have hres := heap_alloc_new (w.alloc (.cells #[.int .i64 a, .int .i64 less, .slice A1 ps.length c1, .slice A3 later.length c3, x4, x5] 44)) (.cells #[.bool false] 4)
  have hb0 := below_alloc (below_alloc (Below.refl _ w) (.cells #[.int .i64 a, .int .i64 less, .slice A1 ps.length c1, .slice A3 later.length c3, x4, x5] 44)) (.cells #[.bool false] 4)
  obtain ⟨W, hW⟩ : ∃ W, W = (w.alloc (.cells #[.int .i64 a, .int .i64 less, .slice A1 ps.length c1, .slice A3 later.length c3, x4, x5] 44)).alloc (.cells #[.bool false] 4) := ⟨_, rfl⟩
  obtain ⟨gx, hgx⟩ : ∃ gx, gx = w.heap.size := ⟨_, rfl⟩
  obtain ⟨gr, hgr⟩ : ∃ gr, gr = w.heap.size + 1 := ⟨_, rfl⟩
  rw [World.size_alloc] at hres
  rw [← hW, ← hgx] at hac
  rw [← hW, ← hgr] at hres
  rw [← hW] at hb0 ⊢
  rw [← hgr, ← hgx]
  have z0 := blk_cell hac 0
  have z1 := blk_cell hac 1
  have z2 := blk_cell hac 2
  have z3 := blk_cell hac 3
  simp only [List.getElem?_toArray, List.getElem?_cons_zero, List.getElem?_cons_succ] at z0 z1 z2 z3
  have hgr0 : w.heap.size ≤ gr := by omega
  replace hb0 := Lib.hid hb0
  replace hres := Lib.hid hres
  clear hW hac hgx hgr
  refine OnlyN.of ?_
  refine start_ (n := 13) (S := fun w' => w'.cell? ⟨gx, 0, none⟩ = some (.int .i64 a) ∧ w'.cell? ⟨gx, 1, none⟩ = some (.int .i64 less) ∧ w'.cell? ⟨gx, 2, none⟩ = some (.slice A1 ps.length c1) ∧ w'.cell? ⟨gx, 3, none⟩ = some (.slice A3 later.length c3)) (ds := [12]) #[false, false, false, false, false, false, false, false, false, false, false, false, false] (by kernel_rfl) rfl rfl ⟨z0, z1, z2, z3⟩ (fun hHeld => ?_)
  refine pure_ (i := 0) (N := some 24) (v := ?_) (a' := ?_) #[true, false, false, false, false, false, false, false, false, false, false, false, false] rfl rfl (by kernel_rfl) (fun _ _ _ h => h) (Or.inl ⟨by rfl, ?_⟩) ?_ ?_
  rotate_left
  · intro w'
    go_simp
    with_reducible rfl
  rotate_left
  · simp only [Act.put, List.setIfInBounds_toArray, List.set_cons_zero, List.set_cons_succ, i64_w, i32_w]
    rfl
  refine pure_ (i := 2) (N := some 26) (v := ?_) (a' := ?_) #[true, false, true, false, false, false, false, false, false, false, false, false, false] rfl rfl (by kernel_rfl) (fun _ _ _ h => h) (Or.inl ⟨by rfl, ?_⟩) ?_ ?_
  rotate_left
  · intro w'
    go_simp
    with_reducible rfl
  rotate_left
  · simp only [Act.put, List.setIfInBounds_toArray, List.set_cons_zero, List.set_cons_succ, i64_w, i32_w]
    rfl
  refine pure_ (i := 4) (N := some 28) (v := ?_) (a' := ?_) #[true, false, true, false, true, false, false, false, false, false, false, false, false] rfl rfl (by kernel_rfl) (fun _ _ _ h => h) (Or.inl ⟨by rfl, ?_⟩) ?_ ?_
  rotate_left
  · intro w'
    go_simp
    with_reducible rfl
  rotate_left
  · simp only [Act.put, List.setIfInBounds_toArray, List.set_cons_zero, List.set_cons_succ, i64_w, i32_w]
    rfl
  refine pure_ (i := 6) (N := some 30) (v := ?_) (a' := ?_) #[true, false, true, false, true, false, true, false, false, false, false, false, false] rfl rfl (by kernel_rfl) (fun _ _ _ h => h) (Or.inl ⟨by rfl, ?_⟩) ?_ ?_
  rotate_left
  · intro w'
    go_simp
    with_reducible rfl
  rotate_left
  · simp only [Act.put, List.setIfInBounds_toArray, List.set_cons_zero, List.set_cons_succ, i64_w, i32_w]
    rfl
  refine take_ (i := 1) (N := some 25) (v := ?_) (a' := ?_) #[true, true, true, false, true, false, true, false, false, false, false, false, false] rfl rfl (by kernel_rfl) (fun _ _ _ h => h) (Or.inl ⟨by rfl, ?_⟩) hHeld ?_ ?_
  rotate_left
  · rintro w' ⟨s0, s1, s2, s3⟩
    go_simp
    with_reducible rfl
  rotate_left
  · simp only [Act.put, List.setIfInBounds_toArray, List.set_cons_zero, List.set_cons_succ, i64_w, i32_w]
    rfl
  refine take_ (i := 3) (N := some 27) (v := ?_) (a' := ?_) #[true, true, true, true, true, false, true, false, false, false, false, false, false] rfl rfl (by kernel_rfl) (fun _ _ _ h => h) (Or.inl ⟨by rfl, ?_⟩) hHeld ?_ ?_
  rotate_left
  · rintro w' ⟨s0, s1, s2, s3⟩
    go_simp
    with_reducible rfl
  rotate_left
  · simp only [Act.put, List.setIfInBounds_toArray, List.set_cons_zero, List.set_cons_succ, i64_w, i32_w]
    rfl
  refine take_ (i := 5) (N := some 29) (v := ?_) (a' := ?_) #[true, true, true, true, true, true, true, false, false, false, false, false, false] rfl rfl (by kernel_rfl) (fun _ _ _ h => h) (Or.inl ⟨by rfl, ?_⟩) hHeld ?_ ?_
  rotate_left
  · rintro w' ⟨s0, s1, s2, s3⟩
    go_simp
    with_reducible rfl
  rotate_left
  · simp only [Act.put, List.setIfInBounds_toArray, List.set_cons_zero, List.set_cons_succ, i64_w, i32_w]
    rfl
  refine take_ (i := 7) (N := some 31) (v := ?_) (a' := ?_) #[true, true, true, true, true, true, true, true, false, false, false, false, false] rfl rfl (by kernel_rfl) (fun _ _ _ h => h) (Or.inl ⟨by rfl, ?_⟩) hHeld ?_ ?_
  rotate_left
  · rintro w' ⟨s0, s1, s2, s3⟩
    go_simp
    with_reducible rfl
  rotate_left
  · simp only [Act.put, List.setIfInBounds_toArray, List.set_cons_zero, List.set_cons_succ, i64_w, i32_w]
    rfl
  refine one_ (i := 8) (N := some 6) #[true, true, true, true, true, true, true, true, true, false, false, false, false] rfl rfl (by kernel_rfl) (by decide) (fun K hK => ?_)
  refine value_ (w1 := ?_) (v := ?_) (by rfl) rfl ?_ ?_
  rotate_left 2
  · go_simp
    constructor
    · rfl
    · rfl
  refine hK.out _ _ ⟨pw_cell_below (below_alloc (Below.refl _ _) _) hHeld.1, pw_cell_below (below_alloc (Below.refl _ _) _) hHeld.2.1, pw_cell_below (below_alloc (Below.refl _ _) _) hHeld.2.2.1, pw_cell_below (below_alloc (Below.refl _ _) _) hHeld.2.2.2⟩ (fun hHeld => ?_)
  clear hK K
  refine norm_ (a' := ?_) ?_ ?_
  rotate_left
  · show Act.put _ (some 6) _ = _
    simp only [Act.put, List.setIfInBounds_toArray, List.set_cons_zero, List.set_cons_succ, i64_w, i32_w]
    rfl
  refine pure_ (i := 9) (N := some 3) (v := ?_) (a' := ?_) #[true, true, true, true, true, true, true, true, true, true, false, false, false] rfl rfl (by kernel_rfl) (fun _ _ _ h => h) (Or.inl ⟨by rfl, ?_⟩) ?_ ?_
  rotate_left
  · intro w'
    go_simp
    with_reducible rfl
  rotate_left
  · simp only [Act.put, List.setIfInBounds_toArray, List.set_cons_zero, List.set_cons_succ, i64_w, i32_w]
    rfl
  refine pure_ (i := 10) (N := some 4) (v := ?_) (a' := ?_) #[true, true, true, true, true, true, true, true, true, true, true, false, false] rfl rfl (by kernel_rfl) (fun _ _ _ h => h) (Or.inl ⟨by rfl, ?_⟩) ?_ ?_
  rotate_left
  · intro w'
    go_simp
    with_reducible rfl
  rotate_left
  · simp only [Act.put, List.setIfInBounds_toArray, List.set_cons_zero, List.set_cons_succ, i64_w, i32_w]
    rfl
  refine pure_ (i := 11) (N := some 5) (v := ?_) (a' := ?_) #[true, true, true, true, true, true, true, true, true, true, true, true, false] rfl rfl (by kernel_rfl) (fun _ _ _ h => h) (Or.inl ⟨by rfl, ?_⟩) ?_ ?_
  rotate_left
  · intro w'
    go_simp
    with_reducible rfl
  rotate_left
  · simp only [Act.put, List.setIfInBounds_toArray, List.set_cons_zero, List.set_cons_succ, i64_w, i32_w]
    rfl
  refine last_ (i := 12) (N := none) #[true, true, true, true, true, true, true, true, true, true, true, true, true] rfl rfl (by kernel_rfl) (by decide) (fun K hK => ?_)
  have c0 := blk_cell (heap_alloc_new W.drew (.cells #[.int .i64 0] 3)) 0
  simp only [List.getElem?_toArray, List.getElem?_cons_zero, List.getElem?_cons_succ] at c0
  refine skip_ (w1 := ?_) (by rfl) rfl ?_ ?_
  rotate_left
  · go_simp
    rfl
  refine hK.out _ _ ?_
  clear hK K
  refine done_ (by kernel_rfl) ?_
  refine OnlyN.mk ?_
  clear hHeld z0 z1 z2 z3 c0
  have hlb := heap_alloc_new W (.cells #[.int .i64 less] 3)
  have hrb := blk_alloc hres.out (.cells #[.int .i64 less] 3)
  have hb1 : Below w.heap.size w (W.alloc (.cells #[.int .i64 less] 3)).drew := (below_step hb0.out (below_alloc (Below.refl _ W) _)).drew
  obtain ⟨gl, hgl⟩ : ∃ gl, gl = W.heap.size := ⟨_, rfl⟩
  have hgl0 : w.heap.size ≤ gl := by rw [hgl]; exact hb0.out.size
  obtain ⟨W0, hW0⟩ : ∃ W0, W0 = (W.alloc (.cells #[.int .i64 less] 3)).drew := ⟨_, rfl⟩
  have hlb0 : Hid (W0.heap[gl]? = some (.cells #[.int .i64 less] 3 (0, 0))) := by show _ = _; rw [hW0, hgl]; exact hlb
  have hrb0 : Hid (W0.heap[gr]? = some (.cells #[.bool false] 4 (0, 0))) := by show _ = _; rw [hW0]; exact hrb
  rw [← hW0] at hb1
  rw [← hW0, ← hgl]
  have HR0 : Hid (ActsRd W0 A1 ps) := HR.out.below hb1
  have HR30 : Hid (ActsRd W0 A3 later) := HR3.out.below hb1
  replace hb1 := Lib.hid hb1
  clear hW0 HR HR3 hb0 hres hlb hrb hgl
  go_wp2_with fail
  refine (New_I a _ (by omega) (by omega)).mono ?_
  rintro e w1 ⟨gm, gb, rfl, hM, hbe1⟩
  replace hM := Lib.hid hM
  replace hbe1 := Lib.hid hbe1
  go_wp2_with fail
  refine (RNew_good a w1 (by omega) (by omega)).mono ?_
  rintro e w2 ⟨rfl, hbe2⟩
  have hB2 : Hid (∃ gq, gq = w2.heap.size ∧ Both W0 (w2.alloc (.cells #[.int .i64 a, .slice none 0 0, .int .i64 0, .int .i64 0, .int .i64 0] 47)) gm gb gq a 0 0 0 [] (.slice none 0 0)) := by
    refine ⟨_, rfl, ⟨(hM.out.below hbe2).below (below_alloc (Below.refl _ _) _), ⟨heap_alloc_new _ _, own_nil _ _ _ _, Nat.le_trans hbe1.out.size hbe2.size, by simp [kv]⟩, (below_step hbe1.out hbe2).trans (below_alloc (Below.refl _ _) _ |>.mono (Nat.le_trans hbe1.out.size hbe2.size))⟩⟩
  clear hM hbe1
  replace hbe2 := Lib.hid hbe2
  go_wp2_with fail
  obtain ⟨gq, hgq, hBo⟩ := hB2.out
  obtain ⟨w3, hw3⟩ : ∃ w3, w3 = w2.alloc (.cells #[.int .i64 a, .slice none 0 0, .int .i64 0, .int .i64 0, .int .i64 0] 47) := ⟨_, rfl⟩
  rw [← hw3] at hBo ⊢
  rw [← hgq]
  replace hBo := Lib.hid hBo
  clear hB2 hbe2 hw3 hgq
  go_loopw [63] (fun i wr => ∃ (k n : Nat) (h m g : Int) (L : List (Ent Int)) (v : Value), i = .int .i64 k ∧ k ≤ ps.length ∧ Hid (Both W0 wr gm gb gq n h m g L v) ∧ Hid (Cb k h m g)) (fun i _ => ps.length - (intOf i).toNat)
  case atStart => exact ⟨0, a, 0, 0, 0, [], _, rfl, by omega, hBo, ⟨by simp, by simp, by simp⟩⟩
  case round =>
    clear hBo
    obtain ⟨k, n, h, m, g, L, v, rfl, hk, hB, hcb⟩ := hrel
    by_cases hlt : k < ps.length
    · obtain ⟨ad, rfl, hX⟩ := HR0.out.2 k hlt
      obtain ⟨p, hpe⟩ : ∃ p, p = ps[k] := ⟨_, rfl⟩
      rw [← hpe] at hX
      clear hpe
      obtain ⟨Ak, ck, q0, q1, q2, q3, hP, hok, -⟩ := hX
      have hbel := hB.out.bel
      replace q0 := pw_cell_below hbel q0
      replace q1 := pw_cell_below hbel q1
      replace q2 := pw_cell_below hbel q2
      replace q3 := pw_cell_below hbel q3
      clear hbel
      replace hok := Lib.hid hok
      replace hP := Lib.hid hP
      go_wp2_with fail
      replace hB := Lib.hid (hB.out.thin (below_alloc (Below.refl _ wr) (.cells #[.int .i64 p.kind, .int .i64 p.k, .int .i64 p.v, .slice Ak p.keys.length ck] 30)))
      refine (does_calls W0 _ gm gb gq n h m g L v k p Ak ck hB.out hcb.out (by omega) hok.out hP.out).mono ?_
      rintro e w4 ⟨rfl, n', h', m', g', L', v', hB4, hcb4⟩
      replace hB4 := Lib.hid hB4
      replace hcb4 := Lib.hid hcb4
      clear q0 q1 q2 q3
      go_wp2_with fail
      go_roundw
      case rel => exact ⟨k + 1, n', h', m', g', L', v', by go_num, by omega, hB4, hcb4⟩
      case measure => simp [intOf]; omega
    · obtain rfl : k = ps.length := by omega
      obtain ⟨wa, hwa⟩ : ∃ wa, wa = wr := ⟨_, rfl⟩
      subst hwa
      go_wp2_with fail
      refine (All_I wa W0.heap.size gm gb n h m g L hB.out.me).mono ?_
      rintro e w5 ⟨gk, gv, vk, vv, rfl, hG⟩
      have hB5 : Hid (Both W0 w5 gm gb gq n h m g L v) := hB.out.thin hG.bel
      replace hG := Lib.hid hG
      obtain ⟨Av, cv, hv, hcl, hrd⟩ := hB5.out.r.o.rd
      obtain ⟨N, hN⟩ : ∃ N, N = (kv L).length := ⟨_, rfl⟩
      rw [← hN] at hv
      subst hv
      have hN4 : N ≤ 4096 := by rw [hN, kv_len]; have := hB5.out.me.ln; have := hB5.out.me.m2; omega
      have yq := blk_cell hB5.out.r.q 1
      simp only [List.getElem?_toArray, List.getElem?_cons_zero, List.getElem?_cons_succ] at yq
      replace yq := pw_cell_below (below_alloc (Below.refl _ w5) (.cells #[.func (.func 35) #[] #[.pointer (some ⟨gk, 0, none⟩), .pointer (some ⟨gv, 0, none⟩)]] 53)) yq
      have hrdA := hrd.below (below_alloc (Below.refl _ w5) (.cells #[.func (.func 35) #[] #[.pointer (some ⟨gk, 0, none⟩), .pointer (some ⟨gv, 0, none⟩)]] 53))
      obtain ⟨v6, w6, hr6, ho6, hg6, hat6⟩ := run_appP (W := w5.alloc (.cells #[.func (.func 35) #[] #[.pointer (some ⟨gk, 0, none⟩), .pointer (some ⟨gv, 0, none⟩)]] 53)) (B := wa.heap.size) (v := .slice none 0 0) (M := []) (c := cv) (own_nil _ _ _ _) hrdA (by have := hG.out.bel.size; simp; omega) (by rw [← hN]; simp; omega) 45
      rw [← hN] at hr6
      have hb6 := Chg.below (Chg.of_grown hg6) (Nat.le_refl _) (fun q hq => by simp [Value.ownBlock] at hq)
      have hbox := blk_below (heap_alloc_new w5 (.cells #[.func (.func 35) #[] #[.pointer (some ⟨gk, 0, none⟩), .pointer (some ⟨gv, 0, none⟩)]] 53)) hb6
      have hB6 : Hid (Both W0 w6 gm gb gq n h m g L (.slice Av N cv)) := (hB5.out.thin (below_alloc (Below.refl _ _) _)).thin hb6
      have hb56 : Below w5.heap.size w5 w6 := below_step (below_alloc (Below.refl _ _) _) hb6
      obtain ⟨A6, c6, rfl, hc6, hrd6⟩ := ho6.rd
      simp only [List.nil_append] at hr6 hrd6 hc6 ho6
      rw [← hN] at hr6 hc6 ho6
      have hWas := was_made hG.out hbox ho6 hrd6 hb56
      have hFM := Lib.hid hB.out.lt
      have hwsz : W0.heap.size ≤ wa.heap.size := hB.out.bel.size
      have hfn := fun (W : World) => func_nil (.func 35) #[] #[.pointer (some ⟨gk, 0, none⟩), .pointer (some ⟨gv, 0, none⟩)] W
      replace hbox := Lib.hid hbox
      replace hb56 := Lib.hid hb56
      replace hrd6 := Lib.hid hrd6
      replace hN := Lib.hid hN
      clear hcl hrd hrdA ho6 hg6 hat6 hb6
      go_wp2_with ((with_reducible refine gate_builtin (b := .append) (xs := #[.const (.slice none 0 0), .tmp 76]) rfl ?_); go_must (refine list_run 45 (by rfl) (.const (.slice none 0 0)) (.tmp 76) rfl rfl rfl hr6 ?_))
      have hwas := heap_alloc_new w6 (.cells #[.slice A6 N c6] 45)
      have hb67 := below_alloc (Below.refl _ w6) (.cells #[.slice A6 N c6] 45)
      have hKp : Hid (BothK W0 (w6.alloc (.cells #[.slice A6 N c6] 45)) L (w6.alloc (.cells #[.slice A6 N c6] 45)) gm gb gq n h m g L (.slice Av N cv)) := (hB6.out.thin hb67).kept
      obtain ⟨gw, hgw⟩ : ∃ gw, gw = w5.heap.size := ⟨_, rfl⟩
      obtain ⟨gp, hgp⟩ : ∃ gp, gp = w6.heap.size := ⟨_, rfl⟩
      obtain ⟨ws, hws⟩ : ∃ ws, ws = w6.alloc (.cells #[.slice A6 N c6] 45) := ⟨_, rfl⟩
      rw [← hws, ← hgw, ← hgp] at hWas
      rw [← hws] at hKp hwas hb67 ⊢
      rw [← hgp] at hwas
      have hws0 : wa.heap.size ≤ ws.heap.size := by have := hb67.size; have := hb56.out.size; have := hG.out.bel.size; omega
      replace hWas := Lib.hid hWas
      replace hwas := Lib.hid hwas
      replace hb67 := Lib.hid hb67
      try rw [← hgp]
      try rw [← hgw]
      replace hgw := Lib.hid hgw
      replace hgp := Lib.hid hgp
      clear hws yq hr6 hfn
      go_loopw [80] (fun i wr => ∃ (k n2 : Nat) (h2 m2 g2 : Int) (L2 : List (Ent Int)) (v2 : Value), i = .int .i64 k ∧ k ≤ later.length ∧ Hid (BothK W0 ws L wr gm gb gq n2 h2 m2 g2 L2 v2) ∧ Hid (Cb (ps.length + k) h2 m2 g2)) (fun i _ => later.length - (intOf i).toNat)
      case atStart => exact ⟨0, n, h, m, g, L, _, rfl, by omega, hKp, hcb⟩
      case round =>
        obtain ⟨k, n2, h2, m2, g2, L2, v2, rfl, hk2, hB, hcb2⟩ := hrel
        by_cases hlt2 : k < later.length
        · obtain ⟨ad, rfl, hX⟩ := HR30.out.2 k hlt2
          obtain ⟨p, hpe⟩ : ∃ p, p = later[k] := ⟨_, rfl⟩
          rw [← hpe] at hX
          clear hpe
          obtain ⟨Ak, ck, q0, q1, q2, q3, hP, hok, -⟩ := hX
          have hbel := hB.out.bel
          replace q0 := pw_cell_below hbel q0
          replace q1 := pw_cell_below hbel q1
          replace q2 := pw_cell_below hbel q2
          replace q3 := pw_cell_below hbel q3
          clear hbel
          replace hok := Lib.hid hok
          replace hP := Lib.hid hP
          go_wp2_with fail
          replace hB := Lib.hid (hB.out.thin (below_alloc (Below.refl _ wr) (.cells #[.int .i64 p.kind, .int .i64 p.k, .int .i64 p.v, .slice Ak p.keys.length ck] 30)))
          refine (does_kept W0 ws L _ gm gb gq n2 h2 m2 g2 L2 v2 (ps.length + k) p Ak ck hB.out hcb2.out (by omega) hok.out hP.out).mono ?_
          rintro e w8 ⟨rfl, n', h', m', g', L', v', hB4, hcb4⟩
          replace hB4 := Lib.hid hB4
          replace hcb4 := Lib.hid hcb4
          clear q0 q1 q2 q3
          go_wp2_with fail
          go_roundw
          case rel => exact ⟨k + 1, n', h', m', g', L', v', by go_num, by omega, hB4, hcb4⟩
          case measure => simp [intOf]; omega
        · obtain rfl : k = later.length := by omega
          obtain ⟨wb, hwb⟩ : ∃ wb, wb = wr := ⟨_, rfl⟩
          subst hwb
          have hcw : Chg ws wb (fun q => q < wa.heap.size) := hB.out.kch.mono (fun q _ h => hFM.out q h)
          have hrl : gr < W0.heap.size := blk_lt hrb0.out
          have hll : gl < W0.heap.size := blk_lt hlb0.out
          have hZ := zed_made hWas.out hcw (blk_below hrb0.out hB.out.bel) (blk_below hlb0.out hB.out.bel) (by omega) (by omega)
          have hsz1 : ws.heap.size ≤ wb.heap.size := hcw.size
          have hBb : Hid (Both W0 wb gm gb gq n2 h2 m2 g2 L2 v2) := hB.out.toBoth
          have y13 := pw_cell_below (below_alloc (Below.refl _ wb) (.cells #[.int .i64 0] 3)) (blk_cell hZ.w 0)
          replace y13 : (wb.alloc (.cells #[.int .i64 0] 3)).cell? ⟨gw, 0, none⟩ = some (.func (.func 35) #[] #[.pointer (some ⟨gk, 0, none⟩), .pointer (some ⟨gv, 0, none⟩)]) := y13
          replace hZ := Lib.hid hZ
          replace hB := Lib.hid hB
          replace hcw := Lib.hid hcw
          go_wp2_with fail
          obtain ⟨gn, hgn⟩ : ∃ gn, gn = wb.heap.size := ⟨_, rfl⟩
          obtain ⟨wz, hwz⟩ : ∃ wz, wz = wb.alloc (.cells #[.int .i64 0] 3) := ⟨_, rfl⟩
          have hgn0 : wz.heap[gn]? = some (.cells #[.int .i64 0] 3 (0, 0)) := by rw [hwz, hgn]; exact heap_alloc_new _ _
          have hZz : Zed wz ws.heap.size gr gl gw gp gk gv N c6 less A6 (kv L) := by rw [hwz]; exact hZ.out.chg (Chg.of_below (below_alloc (Below.refl _ wb) _) _)
          have hBz : Below wb.heap.size wb wz := by rw [hwz]; exact below_alloc (Below.refl _ wb) _
          rw [← hwz, ← hgn]
          have hgs : ws.heap.size ≤ gn := by omega
          refine wp_mono (wpIn_wide.1 (walk1 wz gr gl gw gp gn gk gv N c6 less A6 (kv L) hN.out hN4 hZz.r hZz.l hZz.p hgn0 (by have := hZz.lr; omega) (by have := hZz.ll; omega) (by have := hZz.lp; omega) hZz.rd (fun ad e => by have := hZz.la ad e; omega) (hZz.wk.mono (fun q hq => by have := hBz.size; omega)))) ?_
          rintro e a1 w1 ⟨he, D1, rfl, hD1, hK1, hc1⟩
          refine inBlock_both he ?_
          have hZ1 := hZz.chg (hc1.mono (fun q _ h => by omega))
          have hB1 : Hid (Below wb.heap.size wb w1) := hBz.trans (hc1.below hBz.size (fun q h => by omega))
          have hD1l : D1 < w1.heap.size := (Array.getElem?_eq_some_iff.1 hK1).1
          have z13 := pw_cell_below (below_alloc (below_alloc (Below.refl _ w1) (.cells #[.int .i64 0] 3)) (.cells #[.int .i64 0] 3)) (blk_cell hZ1.w 0)
          replace z13 : ((w1.alloc (.cells #[.int .i64 0] 3)).alloc (.cells #[.int .i64 0] 3)).cell? ⟨gw, 0, none⟩ = some (.func (.func 35) #[] #[.pointer (some ⟨gk, 0, none⟩), .pointer (some ⟨gv, 0, none⟩)]) := z13
          replace hZ1 := Lib.hid hZ1
          replace hc1 := Lib.hid hc1
          replace hK1 := Lib.hid hK1
          replace hBz := Lib.hid hBz
          replace hgn := Lib.hid hgn
          clear hZz hgn0 hwz y13 he
          go_wp2_with fail
          obtain ⟨ga, hga⟩ : ∃ ga, ga = w1.heap.size := ⟨_, rfl⟩
          obtain ⟨gb2, hgb2⟩ : ∃ gb2, gb2 = w1.heap.size + 1 := ⟨_, rfl⟩
          obtain ⟨wy, hwy⟩ : ∃ wy, wy = (w1.alloc (.cells #[.int .i64 0] 3)).alloc (.cells #[.int .i64 0] 3) := ⟨_, rfl⟩
          have hga0 : wy.heap[ga]? = some (.cells #[.int .i64 0] 3 (0, 0)) := by rw [hwy, hga]; exact blk_alloc (heap_alloc_new _ _) _
          have hgb0 : wy.heap[gb2]? = some (.cells #[.int .i64 0] 3 (0, 0)) := by
            have := heap_alloc_new (w1.alloc (.cells #[.int .i64 0] 3)) (.cells #[.int .i64 0] 3)
            rw [World.size_alloc] at this
            rw [hwy, hgb2]
            exact this
          have hBy : Below w1.heap.size w1 wy := by rw [hwy]; exact below_alloc (below_alloc (Below.refl _ w1) _) _
          have hZy := hZ1.out.chg (Chg.of_below hBy _)
          have hKy : wy.heap[D1]? = some (.deferred (some [])) := (hBy.block D1 hD1l).trans hK1.out
          rw [← hwy, ← hgb2, ← hga]
          have hws1 : wb.heap.size ≤ w1.heap.size := hB1.out.size
          have hsy : w1.heap.size ≤ wy.heap.size := hBy.size
          refine wp_mono (wpIn_wide.1 (walk2 wy D1 gr gw gp ga gb2 gk gv N c6 A6 (kv L) hN.out hN4 hZy.r hZy.w hZy.p hga0 hgb0 (by omega) (by have := hZy.lr; omega) (by have := hZy.lr; omega) (by have := hZy.lp; omega) (by have := hZy.lp; omega) (by have := hZy.lw; omega) (by have := hZy.lw; omega) hZy.rd (fun ad e => by have := hZy.la ad e; omega) (hZy.wk.mono (fun q hq => by omega)))) ?_
          rintro e a1 w2 ⟨rfl, D2, rfl, hD2, hK2, hc2, ha2, hb2⟩
          have hc2' := hc2.mono (S1 := fun q => w1.heap.size ≤ q) (fun q _ h => by omega)
          have hZ2 := hZy.chg (hc2'.mono (fun q _ h => by omega))
          have hBf : Below wb.heap.size wb w2 := hB1.out.trans ((hBy.mono hws1).trans (hc2'.below (Nat.le_trans hws1 hsy) (fun q h => by omega)))
          have hK1' : w2.heap[D1]? = some (.deferred (some [])) := hc2.blk hKy (by omega)
          have hD12 : D1 < D2 := by omega
          have hBo2 : Hid (Both W0 w2 gm gb gq n2 h2 m2 g2 L2 v2) := hBb.out.thin hBf
          have x14 : w2.cell? ⟨gp, 0, none⟩ = some (.slice A6 N c6) := blk_cell hZ2.p 0
          have x20 : w2.cell? ⟨ga, 0, none⟩ = some (.int .i64 N) := blk_cell ha2 0
          obtain ⟨pr, hpr⟩ : ∃ pr, pr = min 6 N * N := ⟨_, rfl⟩
          rw [← hpr] at hb2
          have x21 : w2.cell? ⟨gb2, 0, none⟩ = some (.int .i64 pr) := blk_cell hb2 0
          have hbr2 : Hid (w2.heap[gr]? = some (.cells #[.bool false] 4 (0, 0))) := hZ2.r
          have hwr : wrap64 (min 6 (N : Int) * (N : Int)) = (pr : Int) := wrap_min hN4 hpr
          replace hpr := Lib.hid hpr
          replace hK1' := Lib.hid hK1'
          replace hK2 := Lib.hid hK2
          replace hBf := Lib.hid hBf
          replace hc2 := Lib.hid hc2
          replace hD2 := Lib.hid hD2
          clear hZ1 hZ2 hZy hKy hBy hwy hga hgb2 hga0 hgb0 z13 hc2' ha2 hb2
          go_wp2_with fail
          refine (stands_calls W0 w2 gm gb gq n2 h2 m2 g2 L2 v2 hBo2.out).mono ?_
          rintro e w8 ⟨rfl, hb8⟩
          have hbr8 : Hid (w8.heap[gr]? = some (.cells #[.bool false] 4 (0, 0))) := blk_below hbr2.out hb8
          have hK18 : Hid (w8.heap[D1]? = some (.deferred (some []))) := (hb8.block D1 (Array.getElem?_eq_some_iff.1 hK1'.out).1).trans hK1'.out
          have hK28 : Hid (w8.heap[D2]? = some (.deferred (some []))) := (hb8.block D2 (Array.getElem?_eq_some_iff.1 hK2.out).1).trans hK2.out
          have hBf8 : Hid (Below wb.heap.size wb w8) := hBf.out.trans (hb8.mono hBf.out.size)
          clear hwr x14 x20 x21 hbr2 hb8
          go_wp2_with fail
          refine (alive_ok w8).mono ?_
          rintro e w9 ⟨rfl, hb9⟩
          have hbr9 : Hid (w9.heap[gr]? = some (.cells #[.bool false] 4 (0, 0))) := blk_below hbr8.out hb9
          have hK19 : Hid (w9.heap[D1]? = some (.deferred (some []))) := (hb9.block D1 (Array.getElem?_eq_some_iff.1 hK18.out).1).trans hK18.out
          have hK29 : Hid (w9.heap[D2]? = some (.deferred (some []))) := (hb9.block D2 (Array.getElem?_eq_some_iff.1 hK28.out).1).trans hK28.out
          have hBf9 : Hid (Below wb.heap.size wb w9) := hBf8.out.trans (hb9.mono hBf8.out.size)
          have c9 : w9.cell? ⟨gr, 0, none⟩ = some (.bool false) := blk_cell hbr9.out 0
          have f9 := blk_frozen hbr9.out 0
          clear hbr8 hb9
          go_wp2_with fail
          have hKo := KeepsOthers.setCell w9 ⟨gr, 0, none⟩ (.bool true)
          have hK2a := hKo.same D2 _ hK29.out rfl
          have hK1a := hKo.same D1 _ hK19.out rfl
          have hD2a : D2 < (w9.setCell ⟨gr, 0, none⟩ (.bool true)).heap.size := (Array.getElem?_eq_some_iff.1 hK2a).1
          have hD1a : D1 < (w9.setCell ⟨gr, 0, none⟩ (.bool true)).heap.size := (Array.getElem?_eq_some_iff.1 hK1a).1
          have hK1b : ((w9.setCell ⟨gr, 0, none⟩ (.bool true)).putObj D2 (.deferred none)).heap[D1]? = some (.deferred (some [])) := (World.putObj_heap_other (by omega)).trans hK1a
          have hc5 := cell_kept (World.cell?_setCell_same' w9 ⟨gr, 0, none⟩ (.bool true) (by rw [c9]; rfl)) (grownBy_putObj' _ D2 (.deferred none)) (fun r e => by cases e; exact ⟨_, hK2a, rfl⟩)
          have hc6 := cell_kept hc5 (grownBy_putObj' _ D1 (.deferred none)) (fun r e => by cases e; exact ⟨_, hK1b, rfl⟩)
          refine ⟨by simp, .inl ⟨_, _, rfl, run_takeDeferred hK2a, by simp, .inl ⟨_, _, rfl, run_takeDeferred hK1b, ?_⟩⟩⟩
          have hbx : Below w.heap.size w wb := hb1.out.trans (hBb.out.bel.mono hb1.out.size)
          have hby : Below w.heap.size w w9 := hbx.trans (hBf9.out.mono hbx.size)
          have hbs := hbx.size
          have hD2b := hD2.out
          have hbz := hBz.out.size
          have e1 : w.heap.size ≤ D1 := by omega
          have e2 : w.heap.size ≤ D2 := by omega
          refine ⟨.bool true, ?_, rfl, below_putD (below_putD (hby.setCell (p := ⟨gr, 0, none⟩) hgr0 _) e2 _) e1 _⟩
          simp [results, Try.f6, go_sem, hc6]
set_option maxRecDepth 100000 in
set_option maxHeartbeats 4000000 in
theorem LruWalks_bad (most less : Int) (A1 : Option Addr) (n1 c1 : Nat) (A3 : Option Addr) (n3 c3 : Nat) (x4 x5 : Value) (hm : most < 1 ∨ 4096 < most) :
    Calls Try.prog 6 #[.agg #[.int .i64 most, .int .i64 less, .slice A1 n1 c1, .slice A3 n3 c3, x4, x5]] w fun e w' => e = .returned (.bool true) ∧ Below w.heap.size w w' := by
  refine (callsIn_wide (n := 5)).1 ?_
  refine callsIn_of_wp_marks Try.func6 rfl trivial ?_ rfl
  simp only [Try.ntmps6, List.size_toArray, List.length_cons, List.length_nil, Nat.reduceAdd, Nat.reduceSub, Array.replicate_succ, Array.replicate_zero, List.push_toArray, List.append_toArray, List.nil_append, List.cons_append]
  refine wpIn_wide.2 ?_
  go_wp2_with fail
  have hac := blk_alloc (heap_alloc_new w (.cells #[.int .i64 most, .int .i64 less, .slice A1 n1 c1, .slice A3 n3 c3, x4, x5] 44)) (.cells #[.bool false] 4)
  have hres := heap_alloc_new (w.alloc (.cells #[.int .i64 most, .int .i64 less, .slice A1 n1 c1, .slice A3 n3 c3, x4, x5] 44)) (.cells #[.bool false] 4)
  have hb0 := below_alloc (below_alloc (Below.refl _ w) (.cells #[.int .i64 most, .int .i64 less, .slice A1 n1 c1, .slice A3 n3 c3, x4, x5] 44)) (.cells #[.bool false] 4)
  obtain ⟨W, hW⟩ : ∃ W, W = (w.alloc (.cells #[.int .i64 most, .int .i64 less, .slice A1 n1 c1, .slice A3 n3 c3, x4, x5] 44)).alloc (.cells #[.bool false] 4) := ⟨_, rfl⟩
  obtain ⟨gx, hgx⟩ : ∃ gx, gx = w.heap.size := ⟨_, rfl⟩
  obtain ⟨gr, hgr⟩ : ∃ gr, gr = w.heap.size + 1 := ⟨_, rfl⟩
  rw [World.size_alloc] at hres
  rw [← hW, ← hgx] at hac
  rw [← hW, ← hgr] at hres
  rw [← hW] at hb0 ⊢
  rw [← hgr, ← hgx]
  have z0 := blk_cell hac 0
  have z1 := blk_cell hac 1
  have z2 := blk_cell hac 2
  have z3 := blk_cell hac 3
  simp only [List.getElem?_toArray, List.getElem?_cons_zero, List.getElem?_cons_succ] at z0 z1 z2 z3
  have hgr0 : w.heap.size ≤ gr := by omega
  replace hb0 := Lib.hid hb0
  replace hres := Lib.hid hres
  replace hm := Lib.hid hm
  clear hW hac hgx hgr
  refine OnlyN.of ?_
  refine start_ (n := 13) (S := fun w' => w'.cell? ⟨gx, 0, none⟩ = some (.int .i64 most) ∧ w'.cell? ⟨gx, 1, none⟩ = some (.int .i64 less) ∧ w'.cell? ⟨gx, 2, none⟩ = some (.slice A1 n1 c1) ∧ w'.cell? ⟨gx, 3, none⟩ = some (.slice A3 n3 c3)) (ds := [12]) #[false, false, false, false, false, false, false, false, false, false, false, false, false] (by kernel_rfl) rfl rfl ⟨z0, z1, z2, z3⟩ (fun hHeld => ?_)
  refine pure_ (i := 0) (N := some 24) (v := ?_) (a' := ?_) #[true, false, false, false, false, false, false, false, false, false, false, false, false] rfl rfl (by kernel_rfl) (fun _ _ _ h => h) (Or.inl ⟨by rfl, ?_⟩) ?_ ?_
  rotate_left
  · intro w'
    go_simp
    with_reducible rfl
  rotate_left
  · simp only [Act.put, List.setIfInBounds_toArray, List.set_cons_zero, List.set_cons_succ, i64_w, i32_w]
    rfl
  refine pure_ (i := 2) (N := some 26) (v := ?_) (a' := ?_) #[true, false, true, false, false, false, false, false, false, false, false, false, false] rfl rfl (by kernel_rfl) (fun _ _ _ h => h) (Or.inl ⟨by rfl, ?_⟩) ?_ ?_
  rotate_left
  · intro w'
    go_simp
    with_reducible rfl
  rotate_left
  · simp only [Act.put, List.setIfInBounds_toArray, List.set_cons_zero, List.set_cons_succ, i64_w, i32_w]
    rfl
  refine pure_ (i := 4) (N := some 28) (v := ?_) (a' := ?_) #[true, false, true, false, true, false, false, false, false, false, false, false, false] rfl rfl (by kernel_rfl) (fun _ _ _ h => h) (Or.inl ⟨by rfl, ?_⟩) ?_ ?_
  rotate_left
  · intro w'
    go_simp
    with_reducible rfl
  rotate_left
  · simp only [Act.put, List.setIfInBounds_toArray, List.set_cons_zero, List.set_cons_succ, i64_w, i32_w]
    rfl
  refine pure_ (i := 6) (N := some 30) (v := ?_) (a' := ?_) #[true, false, true, false, true, false, true, false, false, false, false, false, false] rfl rfl (by kernel_rfl) (fun _ _ _ h => h) (Or.inl ⟨by rfl, ?_⟩) ?_ ?_
  rotate_left
  · intro w'
    go_simp
    with_reducible rfl
  rotate_left
  · simp only [Act.put, List.setIfInBounds_toArray, List.set_cons_zero, List.set_cons_succ, i64_w, i32_w]
    rfl
  refine take_ (i := 1) (N := some 25) (v := ?_) (a' := ?_) #[true, true, true, false, true, false, true, false, false, false, false, false, false] rfl rfl (by kernel_rfl) (fun _ _ _ h => h) (Or.inl ⟨by rfl, ?_⟩) hHeld ?_ ?_
  rotate_left
  · rintro w' ⟨s0, s1, s2, s3⟩
    go_simp
    with_reducible rfl
  rotate_left
  · simp only [Act.put, List.setIfInBounds_toArray, List.set_cons_zero, List.set_cons_succ, i64_w, i32_w]
    rfl
  refine take_ (i := 3) (N := some 27) (v := ?_) (a' := ?_) #[true, true, true, true, true, false, true, false, false, false, false, false, false] rfl rfl (by kernel_rfl) (fun _ _ _ h => h) (Or.inl ⟨by rfl, ?_⟩) hHeld ?_ ?_
  rotate_left
  · rintro w' ⟨s0, s1, s2, s3⟩
    go_simp
    with_reducible rfl
  rotate_left
  · simp only [Act.put, List.setIfInBounds_toArray, List.set_cons_zero, List.set_cons_succ, i64_w, i32_w]
    rfl
  refine take_ (i := 5) (N := some 29) (v := ?_) (a' := ?_) #[true, true, true, true, true, true, true, false, false, false, false, false, false] rfl rfl (by kernel_rfl) (fun _ _ _ h => h) (Or.inl ⟨by rfl, ?_⟩) hHeld ?_ ?_
  rotate_left
  · rintro w' ⟨s0, s1, s2, s3⟩
    go_simp
    with_reducible rfl
  rotate_left
  · simp only [Act.put, List.setIfInBounds_toArray, List.set_cons_zero, List.set_cons_succ, i64_w, i32_w]
    rfl
  refine take_ (i := 7) (N := some 31) (v := ?_) (a' := ?_) #[true, true, true, true, true, true, true, true, false, false, false, false, false] rfl rfl (by kernel_rfl) (fun _ _ _ h => h) (Or.inl ⟨by rfl, ?_⟩) hHeld ?_ ?_
  rotate_left
  · rintro w' ⟨s0, s1, s2, s3⟩
    go_simp
    with_reducible rfl
  rotate_left
  · simp only [Act.put, List.setIfInBounds_toArray, List.set_cons_zero, List.set_cons_succ, i64_w, i32_w]
    rfl
  refine one_ (i := 8) (N := some 6) #[true, true, true, true, true, true, true, true, true, false, false, false, false] rfl rfl (by kernel_rfl) (by decide) (fun K hK => ?_)
  refine value_ (w1 := ?_) (v := ?_) (by rfl) rfl ?_ ?_
  rotate_left 2
  · go_simp
    constructor
    · rfl
    · rfl
  refine hK.out _ _ ⟨pw_cell_below (below_alloc (Below.refl _ _) _) hHeld.1, pw_cell_below (below_alloc (Below.refl _ _) _) hHeld.2.1, pw_cell_below (below_alloc (Below.refl _ _) _) hHeld.2.2.1, pw_cell_below (below_alloc (Below.refl _ _) _) hHeld.2.2.2⟩ (fun hHeld => ?_)
  clear hK K
  refine norm_ (a' := ?_) ?_ ?_
  rotate_left
  · show Act.put _ (some 6) _ = _
    simp only [Act.put, List.setIfInBounds_toArray, List.set_cons_zero, List.set_cons_succ, i64_w, i32_w]
    rfl
  refine pure_ (i := 9) (N := some 3) (v := ?_) (a' := ?_) #[true, true, true, true, true, true, true, true, true, true, false, false, false] rfl rfl (by kernel_rfl) (fun _ _ _ h => h) (Or.inl ⟨by rfl, ?_⟩) ?_ ?_
  rotate_left
  · intro w'
    go_simp
    with_reducible rfl
  rotate_left
  · simp only [Act.put, List.setIfInBounds_toArray, List.set_cons_zero, List.set_cons_succ, i64_w, i32_w]
    rfl
  refine pure_ (i := 10) (N := some 4) (v := ?_) (a' := ?_) #[true, true, true, true, true, true, true, true, true, true, true, false, false] rfl rfl (by kernel_rfl) (fun _ _ _ h => h) (Or.inl ⟨by rfl, ?_⟩) ?_ ?_
  rotate_left
  · intro w'
    go_simp
    with_reducible rfl
  rotate_left
  · simp only [Act.put, List.setIfInBounds_toArray, List.set_cons_zero, List.set_cons_succ, i64_w, i32_w]
    rfl
  refine pure_ (i := 11) (N := some 5) (v := ?_) (a' := ?_) #[true, true, true, true, true, true, true, true, true, true, true, true, false] rfl rfl (by kernel_rfl) (fun _ _ _ h => h) (Or.inl ⟨by rfl, ?_⟩) ?_ ?_
  rotate_left
  · intro w'
    go_simp
    with_reducible rfl
  rotate_left
  · simp only [Act.put, List.setIfInBounds_toArray, List.set_cons_zero, List.set_cons_succ, i64_w, i32_w]
    rfl
  refine last_ (i := 12) (N := none) #[true, true, true, true, true, true, true, true, true, true, true, true, true] rfl rfl (by kernel_rfl) (by decide) (fun K hK => ?_)
  have c0 := blk_cell (heap_alloc_new W.drew (.cells #[.int .i64 0] 3)) 0
  simp only [List.getElem?_toArray, List.getElem?_cons_zero, List.getElem?_cons_succ] at c0
  refine skip_ (w1 := ?_) (by rfl) rfl ?_ ?_
  rotate_left
  · go_simp
    rfl
  refine hK.out _ _ ?_
  clear hK K
  refine done_ (by kernel_rfl) ?_
  refine OnlyN.mk ?_
  clear hHeld z0 z1 z2 z3 c0
  have hrb := blk_alloc hres.out (.cells #[.int .i64 less] 3)
  have hb1 : Below w.heap.size w (W.alloc (.cells #[.int .i64 less] 3)).drew := (below_step hb0.out (below_alloc (Below.refl _ W) _)).drew
  obtain ⟨gl, hgl⟩ : ∃ gl, gl = W.heap.size := ⟨_, rfl⟩
  obtain ⟨W0, hW0⟩ : ∃ W0, W0 = (W.alloc (.cells #[.int .i64 less] 3)).drew := ⟨_, rfl⟩
  have hrb0 : Hid (W0.heap[gr]? = some (.cells #[.bool false] 4 (0, 0))) := by show _ = _; rw [hW0]; exact hrb
  rw [← hW0] at hb1
  rw [← hW0, ← hgl]
  replace hb1 := Lib.hid hb1
  clear hW0 hb0 hres hrb hgl
  go_wp2_with fail
  refine (New_I_bad most _ hm.out).mono ?_
  rintro e w1 ⟨rfl, rfl⟩
  go_wp2_with fail
  refine (RNew_bad most _ hm.out).mono ?_
  rintro e w2 ⟨rfl, hbe2⟩
  have hrb2 : Hid (w2.heap[gr]? = some (.cells #[.bool false] 4 (0, 0))) := blk_below hrb0.out hbe2
  replace hbe2 := Lib.hid (below_step hb1.out hbe2)
  clear hrb0 hb1
  go_wp2_with fail
  refine (alive_ok _).mono ?_
  rintro e w3 ⟨rfl, hbe3⟩
  have hb3 : Hid (Below w.heap.size w w3) := below_step (below_step hbe2.out (below_alloc (Below.refl _ _) _)) hbe3
  have hbr3 : w3.heap[gr]? = some (.cells #[.bool false] 4 (0, 0)) := blk_below (blk_alloc hrb2.out _) hbe3
  have c9 : w3.cell? ⟨gr, 0, none⟩ = some (.bool false) := blk_cell hbr3 0
  have f9 := blk_frozen hbr3 0
  clear hrb2 hbe2 hbe3 hbr3
  go_wp2_with fail
  refine ⟨.bool true, ?_, rfl, hb3.out.setCell (p := ⟨gr, 0, none⟩) hgr0 _⟩
  have hc5 := World.cell?_setCell_same' w3 ⟨gr, 0, none⟩ (.bool true) (by rw [c9]; rfl)
  simp [results, Try.f6, go_sem, hc5]
end Go.Proofs.Ytecgbhiebaiokaa.G

/- LruWalksSaid is proved: the law LruWalks returns true whatever the input, which reads as before. No conditions. -/
namespace Go.Proofs.Ytecgbhiebaiokaa.G
open Go.ChangeShapes Go.WideShapes Go.RowKit Go.Joins Go.Deep Go.Proofs.YtecgbhiebaiokaaW.PrintWords Go.Proofs.YtecgbhiebaiokaaW.PrintLast Go.Proofs.YtecgbhiebaiokaaW.PrintMore
set_option linter.unusedSimpArgs false
set_option linter.unusedVariables false
theorem LruWalks_calls (w : World) (most less : Int) (A1 : Option Addr) (c1 : Nat) (ps later : List ActL) (A3 : Option Addr) (c3 : Nat) (x4 x5 : Value) (hr : ActsRd w A1 ps) (hlen2 : ps.length ≤ 10000000000000) (hr3 : ActsRd w A3 later) (hlen3 : later.length ≤ 10000000000000) :
    Calls Try.prog 6 #[.agg #[.int .i64 most, .int .i64 less, .slice A1 ps.length c1, .slice A3 later.length c3, x4, x5]] w fun e w' => e = .returned (.bool true) ∧ Below w.heap.size w w' := by
  by_cases h : most < 1 ∨ 4096 < most
  · exact LruWalks_bad w most less A1 ps.length c1 A3 later.length c3 x4 x5 h
  · obtain ⟨a, rfl⟩ : ∃ a : Nat, most = a := ⟨most.toNat, by omega⟩
    exact LruWalks_good w a less A1 c1 ps later A3 c3 x4 x5 (by omega) (by omega) hr hlen2 hr3 hlen3
set_option maxRecDepth 100000 in
theorem walks_lifted (os : Os) (started : os.Started) (H : Type) (enc : TypeId × Value → H) :
    ReturnsInHanded {} Try.checked os 6 .any (Rows.lruWalksSpec.pre6 enc Try.prog Try.f6 Rows.lruWalksRow.domain false) (Rows.lruWalksSpec.post enc Try.prog Try.f6 false true false false) := by
  refine returnsInHanded_of_change_sized (C := Try.checked) own started (by kernel_rfl) Try.func6
    (ChangeSpec.witness6 (enc := enc) (C := Try.checked) false ⟨#[], #[.agg #[.int .i64 0, .int .i64 0, .slice none 0 0, .slice none 0 0, .slice none 0 0, .slice none 0 0]], []⟩ 8 (by kernel_rfl) (by kernel_rfl) (by kernel_rfl) (by kernel_rfl)) ?_
  intro W base args ds gs before hval0 hW hcnd hsz0 _
  have hval : ∀ (j : Nat) t v, Try.f6.params[j]? = some t → args[j]? = some v → Value.okWide Try.prog W .any base t v := hval0
  have hsz : (DataW.weightsEach Try.prog (Try.f6.params.toList ++ Rows.lruWalksSpec.plain.varTypes Try.prog) (ds ++ gs)).all (· ≤ reachBytes) = true := hsz0
  have hW' := hW
  obtain ⟨p, q, hA0, hV, rfl, hfz, hnd⟩ := hW
  have hA : DataW.TrodAll enc Try.prog W 0 (fun _ => true) true Try.f6.params.toList args.toList ds p := hA0
  rw [Try.params6] at hA hval hsz
  obtain ⟨v0, vs0, d0, ds0, p0, q0, hargs, rfl, rfl, h0, r0⟩ := trodAll_cons hA
  obtain ⟨rfl, rfl, rfl⟩ := trodAll_nil r0
  obtain rfl : args = #[v0] := by cases args; simp_all
  obtain ⟨rfl, rfl⟩ := trodVars_none hV
  have k0 := h0
  have lt0 : ∀ x ∈ p0, x.block < W.heap.size := by obtain ⟨m, hm⟩ := k0; exact DataW.trod_lt m _ _ _ hm
  obtain ⟨cs, hcs, hcsz⟩ := okWide_struct Try.underlying44 (hval 0 44 v0 rfl rfl)
  obtain ⟨fuel, hf⟩ := h0
  obtain ⟨most, n, A1, c1, ps, later, A3, c3, x4, A2, c2, keys, e0, e1, e2, e3, e4, e5, rfl, hr, hr3, -, -, -, hd, l2, l3, -⟩ := open_three ⟨cs, hcs, hcsz.trans cells44⟩ hf
  have hd0 : d0 = .agg [e0, e1, e2, e3, e4, e5] := hd
  subst hd0
  have hs6 := three_sized hsz
  have b2 := l2.sized hs6 (j := 2) (t := 22) (e := 30) rfl rfl Try.underlying22
  have b3 := l3.sized hs6 (j := 3) (t := 22) (e := 30) rfl rfl Try.underlying22
  rw [bytes30] at b2
  rw [bytes30] at b3
  clear hA0 hval0
  refine (LruWalks_calls W most n A1 c1 ps later A3 c3 x4 _ hr (by omega) hr3 (by omega)).mono fun e W' ⟨he, bel⟩ => ?_
  subst he
  exact ⟨_, rfl, _, _, _, [], _, [], hW', trodAll_mk1 (shut_bool Try.underlying4 _), trodAll_cons_mk (Below.trod laidOut (by kernel_rfl) (of_decide_eq_true (by kernel_rfl)) k0 bel lt0) trodAll_mk0, rfl, bel.frame _, fun h => by cases h⟩
theorem walks_proved : Rows.LruWalksSaid :=
  OpenClaim.holds_of_wide 6 Try.f6 rfl rfl rfl rfl rfl rfl rfl ⟨rfl, rfl, rfl, rfl, rfl⟩ rfl rfl rfl rfl rfl (by kernel_rfl) Try.func6 (by kernel_rfl)
    (of_decide_eq_true (by kernel_rfl)) (by unfold Func.isWrapper; first | (rw [if_pos (by decide +kernel)]; kernel_rfl) | (rw [if_neg (by decide +kernel)]; exact ⟨rfl, rfl⟩))
    (fun os started H enc _ => walks_lifted os started H enc)
end Go.Proofs.Ytecgbhiebaiokaa.G
namespace Go.Proofs.Ytecgbhiebaiokaa
/-- The row, under a short name, for the claim. -/
theorem lruWalks_holds : Rows.LruWalksSaid := G.walks_proved
#print axioms lruWalks_holds
end Go.Proofs.Ytecgbhiebaiokaa
