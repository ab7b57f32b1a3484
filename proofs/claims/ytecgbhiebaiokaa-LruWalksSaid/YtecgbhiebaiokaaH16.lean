/- The walk of the law LruMore. -/
import Derived.Test.YtecgbhiebaiokaaJ1
import Derived.Lib.MinMax
namespace Go.Proofs.Ytecgbhiebaiokaa.G
open Go.RowKit Go.Proofs.YtecgbhiebaiokaaW.PrintWords Go.Proofs.YtecgbhiebaiokaaW.PrintLast Go.Proofs.YtecgbhiebaiokaaW.PrintMore
set_option linter.unusedSimpArgs false
set_option linter.unusedVariables false
/-- two memos, apart in memory -/
structure Two (w0 W : World) (gm gb gn gd : Nat) (a b : Int) (hm mm om hn mn on : Int) (Lm Ln : List (Ent Int)) : Prop where
  m : Memo ktI W w0.heap.size gm gb a hm mm om Lm
  n : Memo ktI W w0.heap.size gn gd b hn mn on Ln
  dis : ∀ q, FM gm gb Lm q → ¬ FM gn gd Ln q
  bel : Below w0.heap.size w0 W
section
variable {w0 W W1 : World} {gm gb gn gd : Nat} {a b : Int} {hm mm om hn mn on : Int} {Lm Ln : List (Ent Int)}
theorem Two.thin (h : Two w0 W gm gb gn gd a b hm mm om hn mn on Lm Ln) (hb : Below W.heap.size W W1) : Two w0 W1 gm gb gn gd a b hm mm om hn mn on Lm Ln := ⟨h.m.below hb, h.n.below hb, h.dis, below_step h.bel hb⟩
theorem Two.stepM (h : Two w0 W gm gb gn gd a b hm mm om hn mn on Lm Ln) {h' m' o' : Int} {L' : List (Ent Int)} {M : KV} (hs : Step W W1 w0.heap.size gm gb a h' m' o' Lm L' M) : Two w0 W1 gm gb gn gd a b h' m' o' hn mn on L' Ln :=
  ⟨hs.me, h.n.chg hs.ch (fun q hq hf => h.dis q hf hq), fun q hq hn => by
    rcases hs.fm q hq with h1 | h1
    · exact h.dis q h1 hn
    · have := (h.n.fm q hn).2; omega, Chg.old h.m hs.ch h.bel h.bel.size⟩
theorem Two.stepN (h : Two w0 W gm gb gn gd a b hm mm om hn mn on Lm Ln) {h' m' o' : Int} {L' : List (Ent Int)} {M : KV} (hs : Step W W1 w0.heap.size gn gd b h' m' o' Ln L' M) : Two w0 W1 gm gb gn gd a b hm mm om h' m' o' Lm L' :=
  ⟨h.m.chg hs.ch (fun q hq hf => h.dis q hq hf), hs.me, fun q hq hn => by
    rcases hs.fm q hn with h1 | h1
    · exact h.dis q hq h1
    · have := (h.m.fm q hq).2; omega, Chg.old h.n hs.ch h.bel h.bel.size⟩
end
/-- the counters are small yet -/
structure Cs (c : Nat) (h m g : Int) : Prop where
  h : h ≤ c
  m : m ≤ c
  g : g ≤ c
theorem hitI_le (o : Option Int) : hitI o ≤ 1 := by unfold hitI; split <;> omega
theorem missI_le (o : Option Int) : missI o ≤ 1 := by unfold missI; split <;> omega
theorem Cs.up {c : Nat} {h m g h' m' g' : Int} (hc : Cs c h m g) (h1 : h' ≤ h + 1) (h2 : m' ≤ m + 1) (h3 : g' ≤ g + 1) : Cs (c + 1) h' m' g' := by
  obtain ⟨a, b, d⟩ := hc
  exact ⟨by omega, by omega, by omega⟩
theorem Cs.get {c : Nat} {h m g : Int} (hc : Cs c h m g) (o : Option Int) : Cs (c + 1) (h + hitI o) (m + missI o) g := hc.up (by have := hitI_le o; omega) (by have := missI_le o; omega) (by omega)
theorem Cs.put {c : Nat} {h m g : Int} (hc : Cs c h m g) (o : Option Int) : Cs (c + 1) h m (g + hitI o) := hc.up (by omega) (by omega) (by have := hitI_le o; omega)
theorem Cs.look {c : Nat} {h m g : Int} (hc : Cs c h m g) : Cs (c + 1) h m g := hc.up (by omega) (by omega) (by omega)
def More (w0 W : World) (gm gb gn gd a b c : Nat) : Prop := ∃ hm mm om hn mn on Lm Ln, Two w0 W gm gb gn gd a b hm mm om hn mn on Lm Ln ∧ Cs c hm mm om ∧ Cs c hn mn on ∧ Less a b (kv Lm) (kv Ln)
theorem tri (x : Int) : ((x.tmod 3) + 3).tmod 3 = 0 ∨ ((x.tmod 3) + 3).tmod 3 = 1 ∨ ((x.tmod 3) + 3).tmod 3 = 2 := by
  have h1 : -3 < x.tmod 3 := by
    have := Int.lt_tmod_of_pos x (b := 3) (by omega)
    exact this
  have h2 := Int.tmod_nonneg (a := x.tmod 3 + 3) 3 (by omega)
  have h3 := Int.tmod_lt_of_pos (x.tmod 3 + 3) (b := 3) (by omega)
  omega
variable (w : World)
set_option maxRecDepth 100000 in
set_option maxHeartbeats 4000000 in
theorem LruMore_calls (most more : Int) (A : Option Addr) (c : Nat) (ps : List ActL) (hr : ActsRd w A ps) (hlen2 : ps.length ≤ 1000000000000000) :
    Calls Try.prog 4 #[.int .i64 most, .int .i64 more, .slice A ps.length c] w fun e w' => e = .returned (.bool true) ∧ Below w.heap.size w w' := by
  have HR := Lib.hid hr
  have hlen := hr.1
  clear hr
  go_enter Try.func4, Try.ntmps4
  go_wp2_with fail
  obtain ⟨a, ha⟩ : ∃ a : Nat, (a : Int) = min (max most 1) 4096 := ⟨(min (max most 1) 4096).toNat, by omega⟩
  obtain ⟨b0, hb0⟩ : ∃ b0 : Nat, (b0 : Int) = min (max more 0) 4096 := ⟨(min (max more 0) 4096).toNat, by omega⟩
  have ha1 : 1 ≤ a := by omega
  have ha2 : a ≤ 4096 := by omega
  have hb1 : b0 ≤ 4096 := by omega
  rw [← ha, ← hb0]
  clear ha hb0
  obtain ⟨b, hb⟩ : ∃ b : Nat, (b : Int) = min ((a : Int) + b0) 4096 := ⟨(min ((a : Int) + b0) 4096).toNat, by omega⟩
  have hb2 : a ≤ b := by omega
  have hb3 : b ≤ 4096 := by omega
  refine (New_I a _ (by omega) (by omega)).mono ?_
  rintro e w1 ⟨gm, gb, rfl, hM, hbe1⟩
  replace hM := Lib.hid hM
  replace hbe1 := Lib.hid hbe1
  replace hb := Lib.hid hb
  go_wp2_with fail
  rw [← hb.out]
  refine (New_I b _ (by omega) (by omega)).mono ?_
  rintro e w2 ⟨gn, gd, rfl, hN, hbe2⟩
  have hT : Two w w2 gm gb gn gd a b 0 0 0 0 0 0 [] [] := ⟨hM.out.below hbe2, ⟨hN.ch, hN.mp, Nat.le_trans hbe1.out.size hN.bm, Nat.le_trans hbe1.out.size hN.bb, fun e he => by simp at he, hN.uq, hN.okk, hN.ln, hN.m1, hN.m2, hN.h0, hN.h1, hN.i0, hN.i1, hN.g0, hN.g1⟩, fun q hq hn => by
    have h1 := (hM.out.fm q hq).2
    have h2 := (hN.fm q hn).1
    omega, below_step hbe1.out hbe2⟩
  replace hT := Lib.hid hT
  clear hM hN hbe1 hbe2 hb
  go_wp2_with (first | (go_at_call 9; go_must (refine (alive_ok w2).mono ?_); rintro e w3 ⟨rfl, hbe3⟩; replace hT := Lib.hid (hT.out.thin hbe3)))
  have hS : Hid (More w w3 gm gb gn gd a b 0) := ⟨_, _, _, _, _, _, _, _, hT.out, ⟨by omega, by omega, by omega⟩, ⟨by omega, by omega, by omega⟩, ⟨by simp [kv, KUniq], by simp [kv, KUniq], by simp [kv], by simp [kv], .inl ⟨by simp [kv]; omega, rfl⟩⟩⟩
  clear hT hbe3
  go_loopw [60] (fun i wr => ∃ (k : Nat), i = .int .i64 k ∧ k ≤ ps.length ∧ Hid (More w wr gm gb gn gd a b k)) (fun i _ => ps.length - (intOf i).toNat)
  case atStart => exact ⟨0, rfl, by omega, hS⟩
  case round =>
    clear hS
    obtain ⟨k, rfl, hk, hS⟩ := hrel
    by_cases hlt : k < ps.length
    · obtain ⟨ad, rfl, hX⟩ := HR.out.2 k hlt
      obtain ⟨p, hpe⟩ : ∃ p, p = ps[k] := ⟨_, rfl⟩
      rw [← hpe] at hX
      clear hpe
      obtain ⟨hm, mm, om, hn, mn, on, Lm, Ln, hT, hcm, hcn, hL⟩ := hS.out
      obtain ⟨A1, c1, q0, q1, q2, q3, hP, hok, -⟩ := hX
      have hbel := hT.bel
      replace q0 := pw_cell_below hbel q0
      replace q1 := pw_cell_below hbel q1
      replace q2 := pw_cell_below hbel q2
      replace q3 := pw_cell_below hbel q3
      clear hbel hP hS
      replace hok := Lib.hid hok
      replace hT := Lib.hid hT
      replace hcm := Lib.hid hcm
      replace hcn := Lib.hid hcn
      replace hL := Lib.hid hL
      go_wp2_with fail
      · have hac := heap_alloc_new wr (.cells #[.int .i64 p.kind, .int .i64 p.k, .int .i64 p.v, .slice A1 p.keys.length c1] 30)
        have hfm : ∀ q, FM gm gb Lm q → q ≠ wr.heap.size := fun q hq he => by have := (hT.out.m.fm q hq).2; omega
        replace hT := Lib.hid (hT.out.thin (below_alloc (Below.refl _ wr) (.cells #[.int .i64 p.kind, .int .i64 p.k, .int .i64 p.v, .slice A1 p.keys.length c1] 30)))
        obtain ⟨W, hW⟩ : ∃ W, W = wr.alloc (.cells #[.int .i64 p.kind, .int .i64 p.k, .int .i64 p.v, .slice A1 p.keys.length c1] 30) := ⟨_, rfl⟩
        rw [← hW] at hT hac ⊢
        clear hW q0 q1 q2 q3
        cases hl : kvLook p.k (kv Lm) with
        | none =>
          have hg := Get_kv W w.heap.size gm gb a hm mm om Lm p.k hT.out.m hok.out.k.ok (by have := hcm.out.h; omega) (by have := hcm.out.m; omega)
          rw [hl] at hg
          refine hg.mono ?_
          clear hg
          rintro e w4 ⟨rfl, Lm', hs⟩
          have q1 := blk_cell (hs.ch.blk hac (fun hf => hfm _ hf rfl)) 1
          simp only [List.getElem?_toArray, List.getElem?_cons_zero, List.getElem?_cons_succ] at q1
          have hT4 := Lib.hid (hT.out.stepM hs)
          replace hs := Lib.hid hs
          go_wp2_with fail
          have hg := Get_kv w4 w.heap.size gn gd b hn mn on Ln p.k hT4.out.n hok.out.k.ok (by have := hcn.out.h; omega) (by have := hcn.out.m; omega)
          obtain ⟨x2, hx2⟩ : ∃ x2, x2 = (kvLook p.k (kv Ln)).getD 0 := ⟨_, rfl⟩
          obtain ⟨b2, hb2⟩ : ∃ b2, b2 = (kvLook p.k (kv Ln)).isSome := ⟨_, rfl⟩
          rw [← hx2, ← hb2] at hg
          refine hg.mono ?_
          clear hg
          rintro e w5 ⟨rfl, Ln', hs2⟩
          clear hx2 hb2
          have hS5 : Hid (More w w5 gm gb gn gd a b (k + 1)) := ⟨_, _, _, _, _, _, _, _, hT4.out.stepN hs2, hcm.out.get _, hcn.out.get _, by rw [hs.out.eq, hs2.eq]; exact hL.out.get p.k⟩
          clear hs hs2 hT4 hT hac
          go_wp2_with fail
          go_roundw
          case rel => exact ⟨k + 1, by go_num, by omega, hS5⟩
          case measure => simp [intOf]; omega
        | some x1 =>
          have hg := Get_kv W w.heap.size gm gb a hm mm om Lm p.k hT.out.m hok.out.k.ok (by have := hcm.out.h; omega) (by have := hcm.out.m; omega)
          rw [hl] at hg
          refine hg.mono ?_
          clear hg
          rintro e w4 ⟨rfl, Lm', hs⟩
          have q1 := blk_cell (hs.ch.blk hac (fun hf => hfm _ hf rfl)) 1
          simp only [List.getElem?_toArray, List.getElem?_cons_zero, List.getElem?_cons_succ] at q1
          have hT4 := Lib.hid (hT.out.stepM hs)
          replace hs := Lib.hid hs
          go_wp2_with fail
          have hg := Get_kv w4 w.heap.size gn gd b hn mn on Ln p.k hT4.out.n hok.out.k.ok (by have := hcn.out.h; omega) (by have := hcn.out.m; omega)
          rw [hL.out.look hl] at hg
          refine hg.mono ?_
          clear hg
          rintro e w5 ⟨rfl, Ln', hs2⟩
          have hS5 : Hid (More w w5 gm gb gn gd a b (k + 1)) := ⟨_, _, _, _, _, _, _, _, hT4.out.stepN hs2, hcm.out.get _, hcn.out.get _, by rw [hs.out.eq, hs2.eq]; exact hL.out.get p.k⟩
          clear hs hs2 hT4 hT hac
          go_wp2_with fail
          go_roundw
          case rel => exact ⟨k + 1, by go_num, by omega, hS5⟩
          case measure => simp [intOf]; omega
      · have hac := heap_alloc_new wr (.cells #[.int .i64 p.kind, .int .i64 p.k, .int .i64 p.v, .slice A1 p.keys.length c1] 30)
        have hfm : ∀ q, FM gm gb Lm q → q ≠ wr.heap.size := fun q hq he => by have := (hT.out.m.fm q hq).2; omega
        replace hT := Lib.hid (hT.out.thin (below_alloc (Below.refl _ wr) (.cells #[.int .i64 p.kind, .int .i64 p.k, .int .i64 p.v, .slice A1 p.keys.length c1] 30)))
        obtain ⟨W, hW⟩ : ∃ W, W = wr.alloc (.cells #[.int .i64 p.kind, .int .i64 p.k, .int .i64 p.v, .slice A1 p.keys.length c1] 30) := ⟨_, rfl⟩
        rw [← hW] at hT hac ⊢
        clear hW q0 q1 q2 q3
        cases hl : kvLook p.k (kv Lm) with
        | none =>
          have hg := Look_kv W w.heap.size gm gb a hm mm om Lm p.k hT.out.m hok.out.k.ok
          rw [hl] at hg
          refine hg.mono ?_
          clear hg
          rintro e w4 ⟨rfl, rfl⟩
          have q1 := blk_cell hac 1
          simp only [List.getElem?_toArray, List.getElem?_cons_zero, List.getElem?_cons_succ] at q1
          go_wp2_with fail
          have hg := Look_kv W w.heap.size gn gd b hn mn on Ln p.k hT.out.n hok.out.k.ok
          obtain ⟨x2, hx2⟩ : ∃ x2, x2 = (kvLook p.k (kv Ln)).getD 0 := ⟨_, rfl⟩
          obtain ⟨b2, hb2⟩ : ∃ b2, b2 = (kvLook p.k (kv Ln)).isSome := ⟨_, rfl⟩
          rw [← hx2, ← hb2] at hg
          refine hg.mono ?_
          clear hg
          rintro e w5 ⟨rfl, rfl⟩
          clear hx2 hb2
          have hS5 : Hid (More w W gm gb gn gd a b (k + 1)) := ⟨_, _, _, _, _, _, _, _, hT.out, hcm.out.look, hcn.out.look, hL.out⟩
          clear hT hac
          go_wp2_with fail
          go_roundw
          case rel => exact ⟨k + 1, by go_num, by omega, hS5⟩
          case measure => simp [intOf]; omega
        | some x1 =>
          have hg := Look_kv W w.heap.size gm gb a hm mm om Lm p.k hT.out.m hok.out.k.ok
          rw [hl] at hg
          refine hg.mono ?_
          clear hg
          rintro e w4 ⟨rfl, rfl⟩
          have q1 := blk_cell hac 1
          simp only [List.getElem?_toArray, List.getElem?_cons_zero, List.getElem?_cons_succ] at q1
          go_wp2_with fail
          have hg := Look_kv W w.heap.size gn gd b hn mn on Ln p.k hT.out.n hok.out.k.ok
          rw [hL.out.look hl] at hg
          refine hg.mono ?_
          clear hg
          rintro e w5 ⟨rfl, rfl⟩
          have hS5 : Hid (More w W gm gb gn gd a b (k + 1)) := ⟨_, _, _, _, _, _, _, _, hT.out, hcm.out.look, hcn.out.look, hL.out⟩
          clear hT hac
          go_wp2_with fail
          go_roundw
          case rel => exact ⟨k + 1, by go_num, by omega, hS5⟩
          case measure => simp [intOf]; omega
      · have hac := heap_alloc_new wr (.cells #[.int .i64 p.kind, .int .i64 p.k, .int .i64 p.v, .slice A1 p.keys.length c1] 30)
        have hfm : ∀ q, FM gm gb Lm q → q ≠ wr.heap.size := fun q hq he => by have := (hT.out.m.fm q hq).2; omega
        replace hT := Lib.hid (hT.out.thin (below_alloc (Below.refl _ wr) (.cells #[.int .i64 p.kind, .int .i64 p.k, .int .i64 p.v, .slice A1 p.keys.length c1] 30)))
        obtain ⟨W, hW⟩ : ∃ W, W = wr.alloc (.cells #[.int .i64 p.kind, .int .i64 p.k, .int .i64 p.v, .slice A1 p.keys.length c1] 30) := ⟨_, rfl⟩
        rw [← hW] at hT hac ⊢
        clear hW q0 q1 q2 q3
        refine (Put_kv W w.heap.size gm gb a hm mm om Lm p.k p.v a rfl hT.out.bel.size hT.out.m hok.out.k.ok (by have := hcm.out.g; omega)).mono ?_
        rintro e w4 ⟨rfl, Lm', hs⟩
        have q1 := blk_cell (hs.ch.blk hac (fun hf => hfm _ hf rfl)) 1
        have q2 := blk_cell (hs.ch.blk hac (fun hf => hfm _ hf rfl)) 2
        simp only [List.getElem?_toArray, List.getElem?_cons_zero, List.getElem?_cons_succ] at q1 q2
        have hT4 := Lib.hid (hT.out.stepM hs)
        replace hs := Lib.hid hs
        go_wp2_with fail
        refine (Put_kv w4 w.heap.size gn gd b hn mn on Ln p.k p.v b rfl hT4.out.bel.size hT4.out.n hok.out.k.ok (by have := hcn.out.g; omega)).mono ?_
        rintro e w5 ⟨rfl, Ln', hs2⟩
        have hS5 : Hid (More w w5 gm gb gn gd a b (k + 1)) := ⟨_, _, _, _, _, _, _, _, hT4.out.stepN hs2, hcm.out.put _, hcn.out.put _, by rw [hs.out.eq, hs2.eq]; exact hL.out.put (by omega) ha1 p.k p.v⟩
        clear hs hs2 hT4 hT hac
        go_wp2_with fail
        go_roundw
        case rel => exact ⟨k + 1, by go_num, by omega, hS5⟩
        case measure => simp [intOf]; omega
      · replace hT := Lib.hid (hT.out.thin (below_alloc (Below.refl _ wr) (.cells #[.int .i64 p.kind, .int .i64 p.k, .int .i64 p.v, .slice A1 p.keys.length c1] 30)))
        go_roundw
        case rel => exact ⟨k + 1, by go_num, by omega, ⟨_, _, _, _, _, _, _, _, hT.out, hcm.out.look, hcn.out.look, hL.out⟩⟩
        case measure => simp [intOf]; omega
    · obtain ⟨hm, mm, om, hn, mn, on, Lm, Ln, hT, -, -, -⟩ := hS.out
      replace hT := Lib.hid hT.bel
      clear hS
      go_wp2_with fail
      go_ret
      exact ⟨rfl, hT.out⟩
end Go.Proofs.Ytecgbhiebaiokaa.G
