/- The walk of the law LruCounts. -/
import Derived.Test.YtecgbhiebaiokaaH23
namespace Go.Proofs.Ytecgbhiebaiokaa.G
open Go.RowKit Go.Proofs.YtecgbhiebaiokaaW.PrintWords Go.Proofs.YtecgbhiebaiokaaW.PrintLast Go.Proofs.YtecgbhiebaiokaaW.PrintMore
set_option linter.unusedSimpArgs false
set_option linter.unusedVariables false
theorem int_eq {a b : Int} (h : a = b) : Value.int .i64 a = .int .i64 b := by rw [h]
theorem get_len {M : KV} (hu : KUniq M) {k : Int} : (kvGet k M).length = M.length := by
  unfold kvGet
  cases hl : kvLook k M with
  | none => rfl
  | some v =>
    have := kvCut_len hu hl
    simp only [List.length_cons]
    omega
theorem put_len {M : KV} (hu : KUniq M) {n : Nat} {k v : Int} (hl : M.length ≤ n) (hn : 1 ≤ n) : ((kvPut n k v M).length : Int) + hitI (kvOut n k M) = M.length + missI (kvLook k M) := by
  unfold kvPut kvOut
  cases hk : kvLook k M with
  | none =>
    have hh := look_none.1 hk
    rw [hh]
    simp only [Bool.false_eq_true, if_false]
    by_cases h1 : M.length < n
    · rw [if_pos h1, if_pos h1]
      simp [hitI, missI]
    · rw [if_neg h1, if_neg h1]
      have hne : M ≠ [] := by
        rintro rfl
        simp at h1
        omega
      rw [List.getLast?_eq_some_getLast hne]
      have : 1 ≤ M.length := by omega
      simp only [hitI, missI, Option.map_some, Option.isSome_some, Option.isSome_none, Bool.false_eq_true, if_true, if_false, List.length_cons, List.length_dropLast]
      omega
  | some x =>
    have hh : kvHas k M = true := has_true.2 ⟨x, hk⟩
    have := kvCut_len hu hk
    rw [if_pos hh, if_pos hh]
    simp only [hitI, missI, Option.isSome_some, Option.isSome_none, Bool.false_eq_true, if_true, if_false, List.length_cons]
    omega
theorem Side.stepTo {w0 W W1 : World} {gm gb : Nat} {a a2 h m g : Int} {L : List (Ent Int)} {v : Value} {O : List Int} (s : Side w0 W gm gb a h m g L v O) {h' m' g' : Int} {L' : List (Ent Int)} {M : KV} (hs : Step W W1 w0.heap.size gm gb a2 h' m' g' L L' M) : Side w0 W1 gm gb a2 h' m' g' L' v O :=
  ⟨hs.me, s.ow.chg hs.ch (fun k hk hf => s.ow.apart s.me k hf hk), Chg.old s.me hs.ch s.bel s.bel.size⟩
/-- what LruCounts has counted yet -/
structure Cnt (w0 W : World) (gm gb n k : Nat) (h m g dr : Int) (L : List (Ent Int)) : Prop where
  s : Side w0 W gm gb n h m g L (.slice none 0 0) []
  made : g + L.length + dr ≤ k
  asked : h + m ≤ k
  dr0 : 0 ≤ dr
variable (w : World)
set_option maxRecDepth 100000 in
set_option maxHeartbeats 4000000 in
theorem LruCounts_bad (most : Int) (A : Option Addr) (n c : Nat) (h : most < 1 ∨ 4096 < most) :
    Calls Try.prog 5 #[.int .i64 most, .slice A n c] w fun e w' => e = .returned (.bool true) ∧ Below w.heap.size w w' := by
  by_cases h1 : most < 1
  · go_enter Try.func5, Try.ntmps5
    go_wp2_with fail
    refine (New_I_bad most _ h).mono ?_
    rintro e w1 ⟨rfl, rfl⟩
    go_wp2_with (first | (go_at_call 9; go_must (refine (alive_ok _).mono ?_); rintro e w3 ⟨rfl, hbe3⟩; replace hbe3 := Lib.hid hbe3))
    go_ret
    exact ⟨rfl, hbe3.out⟩
  · have h2 : 4096 < most := by omega
    go_enter Try.func5, Try.ntmps5
    go_wp2_with fail
    refine (New_I_bad most _ h).mono ?_
    rintro e w1 ⟨rfl, rfl⟩
    go_wp2_with (first | (go_at_call 9; go_must (refine (alive_ok _).mono ?_); rintro e w3 ⟨rfl, hbe3⟩; replace hbe3 := Lib.hid hbe3))
    go_ret
    exact ⟨rfl, hbe3.out⟩
set_option maxRecDepth 100000 in
set_option maxHeartbeats 8000000 in
theorem LruCounts_good (a : Nat) (A : Option Addr) (c : Nat) (ps : List ActL) (ha1 : 1 ≤ a) (ha2 : a ≤ 4096) (hr : ActsRd w A ps) (hlen2 : ps.length ≤ 1000000000000000) :
    Calls Try.prog 5 #[.int .i64 a, .slice A ps.length c] w fun e w' => e = .returned (.bool true) ∧ Below w.heap.size w w' := by
  have HR := Lib.hid hr
  have hlen := hr.1
  clear hr
  go_enter Try.func5, Try.ntmps5
  go_wp2_with fail
  refine (New_I a _ (by omega) (by omega)).mono ?_
  rintro e w1 ⟨gm, gb, rfl, hM, hbe1⟩
  have hS : Hid (Cnt w w1 gm gb a 0 0 0 0 0 []) := ⟨⟨hM, own_nil _ _ _ _, hbe1⟩, by simp, by simp, by omega⟩
  clear hM hbe1
  go_wp2_with fail
  go_loopw [7, 8, 9, 10, 40] (fun s7 s8 s9 s10 i wr => ∃ (k n : Nat) (h m g : Int) (L : List (Ent Int)) (dr : Int), i = .int .i64 k ∧ k ≤ ps.length ∧ s7 = .int .i64 (g + L.length + dr) ∧ s8 = .int .i64 dr ∧ s9 = .int .i64 h ∧ s10 = .int .i64 (h + m) ∧ Hid (Cnt w wr gm gb n k h m g dr L)) (fun _ _ _ _ i _ => ps.length - (intOf i).toNat)
  case atStart => exact ⟨0, a, 0, 0, 0, [], 0, rfl, by omega, rfl, rfl, rfl, rfl, hS⟩
  case round =>
    clear hS
    obtain ⟨k, n, h, m, g, L, dr, rfl, hk, rfl, rfl, rfl, rfl, hS⟩ := hrel
    have hmade := hS.out.made
    have hasked := hS.out.asked
    have hdr0 := hS.out.dr0
    have hh0 := hS.out.s.me.h0
    have hm0 := hS.out.s.me.i0
    have hg0 := hS.out.s.me.g0
    have hl4 : L.length ≤ 4096 := by have := hS.out.s.me.ln; have := hS.out.s.me.m2; omega
    have hT := hS.out.s
    by_cases hlt : k < ps.length
    · obtain ⟨ad, rfl, hX⟩ := HR.out.2 k hlt
      obtain ⟨p, hpe⟩ : ∃ p, p = ps[k] := ⟨_, rfl⟩
      rw [← hpe] at hX
      clear hpe
      obtain ⟨A1, c1, q0, q1, q2, q3, hP, hok, -⟩ := hX
      have hbel := hT.bel
      replace q0 := pw_cell_below hbel q0
      replace q1 := pw_cell_below hbel q1
      replace q2 := pw_cell_below hbel q2
      replace q3 := pw_cell_below hbel q3
      clear hbel hS
      replace hok := Lib.hid hok
      replace hT := Lib.hid hT
      replace hP := Lib.hid hP
      go_wp2_with fail
      · have hac := heap_alloc_new wr (.cells #[.int .i64 p.kind, .int .i64 p.k, .int .i64 p.v, .slice A1 p.keys.length c1] 30)
        replace hT := Lib.hid (hT.out.thin (below_alloc (Below.refl _ wr) (.cells #[.int .i64 p.kind, .int .i64 p.k, .int .i64 p.v, .slice A1 p.keys.length c1] 30)))
        obtain ⟨W, hW⟩ : ∃ W, W = wr.alloc (.cells #[.int .i64 p.kind, .int .i64 p.k, .int .i64 p.v, .slice A1 p.keys.length c1] 30) := ⟨_, rfl⟩
        rw [← hW] at hT hac ⊢
        clear hW q0 q1 q2 q3
        cases hl : kvLook p.k (kv L) with
        | none =>
          have hg := Get_kv W w.heap.size gm gb n h m g L p.k hT.out.me hok.out.k.ok (by omega) (by omega)
          rw [hl] at hg
          refine hg.mono ?_
          clear hg
          rintro e w4 ⟨rfl, L', hs⟩
          have hlen := get_len (kv_uniq hT.out.me.uq) (k := p.k)
          rw [← hs.eq, kv_len, kv_len] at hlen
          have hT4 := Lib.hid (hT.out.step hs)
          clear hs hT hac
          replace hl := Lib.hid hl
          go_wp2_with fail
          go_roundw
          case rel => exact ⟨k + 1, n, h + 0, m + 1, g, L', dr, by go_num, by omega, int_eq (by omega), int_eq (by omega), int_eq (by omega), int_eq (by omega), ⟨hT4.out, by omega, by omega, by omega⟩⟩
          case measure => simp [intOf]; omega
        | some x1 =>
          have hg := Get_kv W w.heap.size gm gb n h m g L p.k hT.out.me hok.out.k.ok (by omega) (by omega)
          rw [hl] at hg
          refine hg.mono ?_
          clear hg
          rintro e w4 ⟨rfl, L', hs⟩
          have hlen := get_len (kv_uniq hT.out.me.uq) (k := p.k)
          rw [← hs.eq, kv_len, kv_len] at hlen
          have hT4 := Lib.hid (hT.out.step hs)
          clear hs hT hac
          replace hl := Lib.hid hl
          go_wp2_with fail
          go_roundw
          case rel => exact ⟨k + 1, n, h + 1, m + 0, g, L', dr, by go_num, by omega, int_eq (by omega), int_eq (by omega), int_eq (by omega), int_eq (by omega), ⟨hT4.out, by omega, by omega, by omega⟩⟩
          case measure => simp [intOf]; omega
      · have hac := heap_alloc_new wr (.cells #[.int .i64 p.kind, .int .i64 p.k, .int .i64 p.v, .slice A1 p.keys.length c1] 30)
        replace hT := Lib.hid (hT.out.thin (below_alloc (Below.refl _ wr) (.cells #[.int .i64 p.kind, .int .i64 p.k, .int .i64 p.v, .slice A1 p.keys.length c1] 30)))
        obtain ⟨W, hW⟩ : ∃ W, W = wr.alloc (.cells #[.int .i64 p.kind, .int .i64 p.k, .int .i64 p.v, .slice A1 p.keys.length c1] 30) := ⟨_, rfl⟩
        rw [← hW] at hT hac ⊢
        clear hW q0 q1 q2 q3
        have q1 := blk_cell hac 1
        have q2 := blk_cell hac 2
        simp only [List.getElem?_toArray, List.getElem?_cons_zero, List.getElem?_cons_succ] at q1 q2
        cases hl : kvLook p.k (kv L) with
        | none =>
          have hg := Look_kv W w.heap.size gm gb n h m g L p.k hT.out.me hok.out.k.ok
          rw [hl] at hg
          refine hg.mono ?_
          clear hg
          rintro e w4 ⟨rfl, rfl⟩
          replace hl := Lib.hid hl
          go_wp2_with fail
          replace hl := hl.out
          have hg := Put_kv W w.heap.size gm gb n h m g L p.k p.v n rfl hT.out.bel.size hT.out.me hok.out.k.ok (by omega)
          have hlen := put_len (n := n) (k := p.k) (v := p.v) (kv_uniq hT.out.me.uq) (by rw [kv_len]; have := hT.out.me.ln; omega) (by have := hT.out.me.m1; omega)
          have hgo : g + hitI (kvOut n p.k (kv L)) = g + hitI (kvOut n p.k (kv L)) := rfl
          rw [hl] at hlen
          refine hg.mono ?_
          clear hg
          rintro e w5 ⟨rfl, L', hs⟩
          rw [← hs.eq, kv_len, kv_len] at hlen
          have hT4 := hT.out.step hs
          obtain ⟨g2, hg2⟩ : ∃ g2, g2 = g + hitI (kvOut n p.k (kv L)) := ⟨_, rfl⟩
          have hg3 := hitI_le (kvOut n p.k (kv L))
          have hlen2 : g2 + L'.length = g + L.length + 1 := by rw [hg2]; simp [missI] at hlen; omega
          rw [← hg2] at hT4
          have hg4 := hT4.me.g0
          have hg5 := hT4.me.g1
          replace hT4 := Lib.hid hT4
          clear hs hT hac hg2 hlen hg3 hgo
          replace hl := Lib.hid hl
          generalize (kvOut n p.k (kv L)).getD 0 = z8
          generalize (kvOut n p.k (kv L)).isSome = z9
          go_wp2_with fail
          go_roundw
          case rel => exact ⟨k + 1, n, h, m, g2, L', dr, by go_num, by omega, int_eq (by omega), int_eq (by omega), int_eq (by omega), int_eq (by omega), ⟨hT4.out, by omega, by omega, by omega⟩⟩
          case measure => simp [intOf]; omega
        | some x1 =>
          have hg := Look_kv W w.heap.size gm gb n h m g L p.k hT.out.me hok.out.k.ok
          rw [hl] at hg
          refine hg.mono ?_
          clear hg
          rintro e w4 ⟨rfl, rfl⟩
          replace hl := Lib.hid hl
          go_wp2_with fail
          replace hl := hl.out
          have hg := Put_kv W w.heap.size gm gb n h m g L p.k p.v n rfl hT.out.bel.size hT.out.me hok.out.k.ok (by omega)
          have hlen := put_len (n := n) (k := p.k) (v := p.v) (kv_uniq hT.out.me.uq) (by rw [kv_len]; have := hT.out.me.ln; omega) (by have := hT.out.me.m1; omega)
          have hgo : g + hitI (kvOut n p.k (kv L)) = g + hitI (kvOut n p.k (kv L)) := rfl
          rw [hl] at hlen
          refine hg.mono ?_
          clear hg
          rintro e w5 ⟨rfl, L', hs⟩
          rw [← hs.eq, kv_len, kv_len] at hlen
          have hT4 := hT.out.step hs
          obtain ⟨g2, hg2⟩ : ∃ g2, g2 = g + hitI (kvOut n p.k (kv L)) := ⟨_, rfl⟩
          have hg3 := hitI_le (kvOut n p.k (kv L))
          have hlen2 : g2 + L'.length = g + L.length + 0 := by rw [hg2]; simp [missI] at hlen; omega
          rw [← hg2] at hT4
          have hg4 := hT4.me.g0
          have hg5 := hT4.me.g1
          replace hT4 := Lib.hid hT4
          clear hs hT hac hg2 hlen hg3 hgo
          replace hl := Lib.hid hl
          generalize (kvOut n p.k (kv L)).getD 0 = z8
          generalize (kvOut n p.k (kv L)).isSome = z9
          go_wp2_with fail
          go_roundw
          case rel => exact ⟨k + 1, n, h, m, g2, L', dr, by go_num, by omega, int_eq (by omega), int_eq (by omega), int_eq (by omega), int_eq (by omega), ⟨hT4.out, by omega, by omega, by omega⟩⟩
          case measure => simp [intOf]; omega
      · have hac := heap_alloc_new wr (.cells #[.int .i64 p.kind, .int .i64 p.k, .int .i64 p.v, .slice A1 p.keys.length c1] 30)
        replace hT := Lib.hid (hT.out.thin (below_alloc (Below.refl _ wr) (.cells #[.int .i64 p.kind, .int .i64 p.k, .int .i64 p.v, .slice A1 p.keys.length c1] 30)))
        obtain ⟨W, hW⟩ : ∃ W, W = wr.alloc (.cells #[.int .i64 p.kind, .int .i64 p.k, .int .i64 p.v, .slice A1 p.keys.length c1] 30) := ⟨_, rfl⟩
        rw [← hW] at hT hac ⊢
        clear hW q0 q1 q2 q3
        have hdl := kvDrops_le p.keys (kv L)
        refine (Drop_kv W w.heap.size gm gb n h m g L A1 c1 p.keys hT.out.me hok.out.keys (hP.out.2.1) (fun W' hc => hP.out.below (hT.out.bel.trans (hc.below hT.out.bel.size (fun q hq => (hT.out.me.fm q hq).1))))).mono ?_
        rintro e w4 ⟨rfl, L', hs⟩
        rw [← hs.eq, kv_len, kv_len] at hdl ⊢
        have hT4 := Lib.hid (hT.out.step hs)
        clear hs hT hac
        go_wp2_with fail
        go_roundw
        case rel => exact ⟨k + 1, n, h, m, g, L', dr + (L.length - L'.length), by go_num, by omega, int_eq (by omega), int_eq (by omega), int_eq (by omega), int_eq (by omega), ⟨hT4.out, by omega, by omega, by omega⟩⟩
        case measure => simp [intOf]; omega
      · have hac := heap_alloc_new wr (.cells #[.int .i64 p.kind, .int .i64 p.k, .int .i64 p.v, .slice A1 p.keys.length c1] 30)
        replace hT := Lib.hid (hT.out.thin (below_alloc (Below.refl _ wr) (.cells #[.int .i64 p.kind, .int .i64 p.k, .int .i64 p.v, .slice A1 p.keys.length c1] 30)))
        obtain ⟨W, hW⟩ : ∃ W, W = wr.alloc (.cells #[.int .i64 p.kind, .int .i64 p.k, .int .i64 p.v, .slice A1 p.keys.length c1] 30) := ⟨_, rfl⟩
        rw [← hW] at hT hac ⊢
        clear hW q0 q1 q2 q3
        by_cases hbad : p.v < 1 ∨ 4096 < p.v
        · refine (Resize_bad W w.heap.size gm gb n h m g L p.v hT.out.me hbad).mono ?_
          rintro e w4 ⟨rfl, rfl⟩
          clear hac hbad
          go_wp2_with fail
          go_roundw
          case rel => exact ⟨k + 1, n, h, m, g, L, dr, by go_num, by omega, int_eq (by omega), int_eq (by omega), int_eq (by omega), int_eq (by omega), ⟨hT.out, by omega, by omega, by omega⟩⟩
          case measure => simp [intOf]; omega
        · obtain ⟨n2, hn2⟩ : ∃ n2 : Nat, p.v = n2 := ⟨p.v.toNat, by omega⟩
          rw [hn2]
          have hle := kv_len L
          refine (Resize_kv W w.heap.size gm gb n h m g L n2 hT.out.me hT.out.bel.size (by omega) (by omega) (by omega)).mono ?_
          rintro e w4 ⟨v4, rfl, ho4, L', hs⟩
          have hl2 : L'.length = min n2 L.length := by rw [← kv_len L', hs.eq, List.length_take, kv_len]
          have hT4 := hT.out.stepTo hs
          obtain ⟨g2, hg2⟩ : ∃ g2, g2 = g + ((L.length - n2 : Nat) : Int) := ⟨_, rfl⟩
          rw [← hg2] at hT4
          have hlen2 : g2 + L'.length = g + L.length := by omega
          have hg4 := hT4.me.g0
          replace hT4 := Lib.hid hT4
          replace hn2 := Lib.hid hn2
          clear hs hT hac hbad ho4 hg2 hl2 hle
          go_wp2_with fail
          go_roundw
          case rel => exact ⟨k + 1, n2, h, m, g2, L', dr, by go_num, by omega, int_eq (by omega), int_eq (by omega), int_eq (by omega), int_eq (by omega), ⟨hT4.out, by omega, by omega, by omega⟩⟩
          case measure => simp [intOf]; omega
      · replace hT := Lib.hid (hT.out.thin (below_alloc (Below.refl _ wr) (.cells #[.int .i64 p.kind, .int .i64 p.k, .int .i64 p.v, .slice A1 p.keys.length c1] 30)))
        go_roundw
        case rel => exact ⟨k + 1, n, h, m, g, L, dr, by go_num, by omega, int_eq (by omega), int_eq (by omega), int_eq (by omega), int_eq (by omega), ⟨hT.out, by omega, by omega, by omega⟩⟩
        case measure => simp [intOf]; omega
    · clear hS
      have hlt4 := blk_lt hT.me.ch.mem
      replace hT := Lib.hid hT
      go_wp2_with fail
      refine (Uses_I wr w.heap.size gm gb n h m g L hT.out.me).mono ?_
      rintro e w4 ⟨rfl, hb4⟩
      replace hT := Lib.hid ((hT.out.thin hb4).thin (below_alloc (Below.refl _ w4) (.cells #[.int .i64 h, .int .i64 m, .int .i64 g] 40)))
      have hac := heap_alloc_new w4 (.cells #[.int .i64 h, .int .i64 m, .int .i64 g] 40)
      clear hb4
      go_wp2_with fail
      obtain ⟨W, hW⟩ : ∃ W, W = w4.alloc (.cells #[.int .i64 h, .int .i64 m, .int .i64 g] 40) := ⟨_, rfl⟩
      obtain ⟨gu, hgu⟩ : ∃ gu, gu = w4.heap.size := ⟨_, rfl⟩
      rw [← hW, ← hgu] at hac
      rw [← hW] at hT ⊢
      rw [← hgu]
      have hTd : Hid (Memo ktI W.drew w.heap.size gm gb n h m g L) := hT.out.me.drewN 1
      have z0 := blk_cell hac 0
      have z1 := blk_cell hac 1
      have z2 := blk_cell hac 2
      simp only [List.getElem?_toArray, List.getElem?_cons_zero, List.getElem?_cons_succ] at z0 z1 z2
      clear hW hgu hac
      have e1 : wrap64 (g + (L.length : Int)) = g + (L.length : Int) := by unfold wrap64; omega
      have e2 : wrap64 (g + (L.length : Int) + dr) = g + (L.length : Int) + dr := by unfold wrap64; omega
      have e3 : wrap64 (h + m) = h + m := by unfold wrap64; omega
      have t0 : (g + (L.length : Int) + dr == g + (L.length : Int) + dr) = true := by simp
      have t1 : (h == h) = true := by simp
      have t2 : (h + m == h + m) = true := by simp
      refine start_ (n := 28) (S := fun w' => w'.cell? ⟨gu, 0, none⟩ = some (.int .i64 h) ∧ w'.cell? ⟨gu, 1, none⟩ = some (.int .i64 m) ∧ w'.cell? ⟨gu, 2, none⟩ = some (.int .i64 g)) (ds := []) #[false, false, false, false, false, false, false, false, false, false, false, false, false, false, false, false, false, false, false, false, false, false, false, false, false, false, false, false] (by kernel_rfl) rfl rfl ⟨z0, z1, z2⟩ (fun hHeld => ?_)
      refine pure_ (i := 0) (N := some 99) (v := ?_) (a' := ?_) #[true, false, false, false, false, false, false, false, false, false, false, false, false, false, false, false, false, false, false, false, false, false, false, false, false, false, false, false] rfl rfl (by kernel_rfl) (fun _ _ _ h => h) (Or.inl ⟨by rfl, ?_⟩) ?_ ?_
      rotate_left
      · intro w'
        go_simp
        with_reducible rfl
      rotate_left
      · simp only [Act.put, List.setIfInBounds_toArray, List.set_cons_zero, List.set_cons_succ, i64_w, i32_w]
        rfl
      refine pure_ (i := 2) (N := some 101) (v := ?_) (a' := ?_) #[true, false, true, false, false, false, false, false, false, false, false, false, false, false, false, false, false, false, false, false, false, false, false, false, false, false, false, false] rfl rfl (by kernel_rfl) (fun _ _ _ h => h) (Or.inl ⟨by rfl, ?_⟩) ?_ ?_
      rotate_left
      · intro w'
        go_simp
        with_reducible rfl
      rotate_left
      · simp only [Act.put, List.setIfInBounds_toArray, List.set_cons_zero, List.set_cons_succ, i64_w, i32_w]
        rfl
      refine pure_ (i := 5) (N := some 104) (v := ?_) (a' := ?_) #[true, false, true, false, false, true, false, false, false, false, false, false, false, false, false, false, false, false, false, false, false, false, false, false, false, false, false, false] rfl rfl (by kernel_rfl) (fun _ _ _ h => h) (Or.inl ⟨by rfl, ?_⟩) ?_ ?_
      rotate_left
      · intro w'
        go_simp
        with_reducible rfl
      rotate_left
      · simp only [Act.put, List.setIfInBounds_toArray, List.set_cons_zero, List.set_cons_succ, i64_w, i32_w]
        rfl
      refine pure_ (i := 7) (N := some 106) (v := ?_) (a' := ?_) #[true, false, true, false, false, true, false, true, false, false, false, false, false, false, false, false, false, false, false, false, false, false, false, false, false, false, false, false] rfl rfl (by kernel_rfl) (fun _ _ _ h => h) (Or.inl ⟨by rfl, ?_⟩) ?_ ?_
      rotate_left
      · intro w'
        go_simp
        with_reducible rfl
      rotate_left
      · simp only [Act.put, List.setIfInBounds_toArray, List.set_cons_zero, List.set_cons_succ, i64_w, i32_w]
        rfl
      refine take_ (i := 1) (N := some 100) (v := ?_) (a' := ?_) #[true, true, true, false, false, true, false, true, false, false, false, false, false, false, false, false, false, false, false, false, false, false, false, false, false, false, false, false] rfl rfl (by kernel_rfl) (fun _ _ _ h => h) (Or.inl ⟨by rfl, ?_⟩) hHeld ?_ ?_
      rotate_left
      · rintro w' ⟨s0, s1, s2⟩
        go_simp
        with_reducible rfl
      rotate_left
      · simp only [Act.put, List.setIfInBounds_toArray, List.set_cons_zero, List.set_cons_succ, i64_w, i32_w]
        rfl
      refine one_ (i := 3) (N := some 102) #[true, true, true, true, false, true, false, true, false, false, false, false, false, false, false, false, false, false, false, false, false, false, false, false, false, false, false, false] rfl rfl (by kernel_rfl) (by decide) (fun K hK => ?_)
      refine goes_ Try.func13 (by kernel_rfl) rfl #[.pointer (some ⟨gm, 0, none⟩)] (by rfl) rfl rfl (by simp only [List.map_toArray, List.map_cons, List.map_nil]; rfl) ?_
      with_reducible refine (Len_I _ _ _ _ _ _ _ _ _ hTd.out).mono ?_
      rintro e w5 ⟨rfl, rfl⟩
      refine ⟨_, rfl, ?_⟩
      refine hK.out _ _ ⟨hHeld.1, hHeld.2.1, hHeld.2.2⟩ (fun hHeld => ?_)
      clear hK K
      refine norm_ (a' := ?_) ?_ ?_
      rotate_left
      · show Act.put _ (some 102) _ = _
        simp only [Act.put, List.setIfInBounds_toArray, List.set_cons_zero, List.set_cons_succ, i64_w, i32_w]
        rfl
      refine pure_ (i := 4) (N := some 103) (v := ?_) (a' := ?_) #[true, true, true, true, true, true, false, true, false, false, false, false, false, false, false, false, false, false, false, false, false, false, false, false, false, false, false, false] rfl rfl (by kernel_rfl) (fun _ _ _ h => h) (Or.inl ⟨by rfl, ?_⟩) ?_ ?_
      rotate_left
      · intro w'
        go_simp
        with_reducible rfl
      rotate_left
      · simp only [Act.put, List.setIfInBounds_toArray, List.set_cons_zero, List.set_cons_succ, i64_w, i32_w]
        rfl
      refine pure_ (i := 6) (N := some 105) (v := ?_) (a' := ?_) #[true, true, true, true, true, true, true, true, false, false, false, false, false, false, false, false, false, false, false, false, false, false, false, false, false, false, false, false] rfl rfl (by kernel_rfl) (fun _ _ _ h => h) (Or.inl ⟨by rfl, ?_⟩) ?_ ?_
      rotate_left
      · intro w'
        go_simp
        with_reducible rfl
      rotate_left
      · simp only [Act.put, List.setIfInBounds_toArray, List.set_cons_zero, List.set_cons_succ, i64_w, i32_w]
        rfl
      refine pure_ (i := 8) (N := some 107) (v := ?_) (a' := ?_) #[true, true, true, true, true, true, true, true, true, false, false, false, false, false, false, false, false, false, false, false, false, false, false, false, false, false, false, false] rfl rfl (by kernel_rfl) (fun _ _ _ h => h) (Or.inl ⟨by rfl, ?_⟩) ?_ ?_
      rotate_left
      · intro w'
        go_simp
        with_reducible rfl
      rotate_left
      · simp only [Act.put, List.setIfInBounds_toArray, List.set_cons_zero, List.set_cons_succ, i64_w, i32_w]
        rfl
      refine pure_ (i := 9) (N := some 108) (v := ?_) (a' := ?_) #[true, true, true, true, true, true, true, true, true, true, false, false, false, false, false, false, false, false, false, false, false, false, false, false, false, false, false, false] rfl rfl (by kernel_rfl) (fun _ _ _ h => h) (Or.inl ⟨by rfl, ?_⟩) ?_ ?_
      rotate_left
      · intro w'
        go_simp
        with_reducible rfl
      rotate_left
      · simp only [Act.put, List.setIfInBounds_toArray, List.set_cons_zero, List.set_cons_succ, i64_w, i32_w]
        rfl
      refine pure_ (i := 10) (N := some 109) (v := ?_) (a' := ?_) #[true, true, true, true, true, true, true, true, true, true, true, false, false, false, false, false, false, false, false, false, false, false, false, false, false, false, false, false] rfl rfl (by kernel_rfl) (fun _ _ _ h => h) (Or.inl ⟨by rfl, ?_⟩) ?_ ?_
      rotate_left
      · intro w'
        go_simp
        with_reducible rfl
      rotate_left
      · simp only [Act.put, List.setIfInBounds_toArray, List.set_cons_zero, List.set_cons_succ, i64_w, i32_w]
        rfl
      refine pure_ (i := 12) (N := some 111) (v := ?_) (a' := ?_) #[true, true, true, true, true, true, true, true, true, true, true, false, true, false, false, false, false, false, false, false, false, false, false, false, false, false, false, false] rfl rfl (by kernel_rfl) (fun _ _ _ h => h) (Or.inl ⟨by rfl, ?_⟩) ?_ ?_
      rotate_left
      · intro w'
        go_simp
        with_reducible rfl
      rotate_left
      · simp only [Act.put, List.setIfInBounds_toArray, List.set_cons_zero, List.set_cons_succ, i64_w, i32_w]
        rfl
      refine take_ (i := 11) (N := some 110) (v := ?_) (a' := ?_) #[true, true, true, true, true, true, true, true, true, true, true, true, true, false, false, false, false, false, false, false, false, false, false, false, false, false, false, false] rfl rfl (by kernel_rfl) (fun _ _ _ h => h) (Or.inl ⟨by rfl, ?_⟩) hHeld ?_ ?_
      rotate_left
      · rintro w' ⟨s0, s1, s2⟩
        go_simp
        with_reducible rfl
      rotate_left
      · simp only [Act.put, List.setIfInBounds_toArray, List.set_cons_zero, List.set_cons_succ, i64_w, i32_w]
        rfl
      refine pure_ (i := 13) (N := some 112) (v := ?_) (a' := ?_) #[true, true, true, true, true, true, true, true, true, true, true, true, true, true, false, false, false, false, false, false, false, false, false, false, false, false, false, false] rfl rfl (by kernel_rfl) (fun _ _ _ h => h) (Or.inl ⟨by rfl, ?_⟩) ?_ ?_
      rotate_left
      · intro w'
        go_simp
        with_reducible rfl
      rotate_left
      · simp only [Act.put, List.setIfInBounds_toArray, List.set_cons_zero, List.set_cons_succ, i64_w, i32_w]
        rfl
      refine pure_ (i := 14) (N := some 113) (v := ?_) (a' := ?_) #[true, true, true, true, true, true, true, true, true, true, true, true, true, true, true, false, false, false, false, false, false, false, false, false, false, false, false, false] rfl rfl (by kernel_rfl) (fun _ _ _ h => h) (Or.inl ⟨by rfl, ?_⟩) ?_ ?_
      rotate_left
      · intro w'
        go_simp
        with_reducible rfl
      rotate_left
      · simp only [Act.put, List.setIfInBounds_toArray, List.set_cons_zero, List.set_cons_succ, i64_w, i32_w]
        rfl
      refine pure_ (i := 15) (N := some 114) (v := ?_) (a' := ?_) #[true, true, true, true, true, true, true, true, true, true, true, true, true, true, true, true, false, false, false, false, false, false, false, false, false, false, false, false] rfl rfl (by kernel_rfl) (fun _ _ _ h => h) (Or.inl ⟨by rfl, ?_⟩) ?_ ?_
      rotate_left
      · intro w'
        go_simp
        with_reducible rfl
      rotate_left
      · simp only [Act.put, List.setIfInBounds_toArray, List.set_cons_zero, List.set_cons_succ, i64_w, i32_w]
        rfl
      refine pure_ (i := 16) (N := some 115) (v := ?_) (a' := ?_) #[true, true, true, true, true, true, true, true, true, true, true, true, true, true, true, true, true, false, false, false, false, false, false, false, false, false, false, false] rfl rfl (by kernel_rfl) (fun _ _ _ h => h) (Or.inl ⟨by rfl, ?_⟩) ?_ ?_
      rotate_left
      · intro w'
        go_simp
        with_reducible rfl
      rotate_left
      · simp only [Act.put, List.setIfInBounds_toArray, List.set_cons_zero, List.set_cons_succ, i64_w, i32_w]
        rfl
      refine pure_ (i := 18) (N := some 117) (v := ?_) (a' := ?_) #[true, true, true, true, true, true, true, true, true, true, true, true, true, true, true, true, true, false, true, false, false, false, false, false, false, false, false, false] rfl rfl (by kernel_rfl) (fun _ _ _ h => h) (Or.inl ⟨by rfl, ?_⟩) ?_ ?_
      rotate_left
      · intro w'
        go_simp
        with_reducible rfl
      rotate_left
      · simp only [Act.put, List.setIfInBounds_toArray, List.set_cons_zero, List.set_cons_succ, i64_w, i32_w]
        rfl
      refine pure_ (i := 21) (N := some 120) (v := ?_) (a' := ?_) #[true, true, true, true, true, true, true, true, true, true, true, true, true, true, true, true, true, false, true, false, false, true, false, false, false, false, false, false] rfl rfl (by kernel_rfl) (fun _ _ _ h => h) (Or.inl ⟨by rfl, ?_⟩) ?_ ?_
      rotate_left
      · intro w'
        go_simp
        with_reducible rfl
      rotate_left
      · simp only [Act.put, List.setIfInBounds_toArray, List.set_cons_zero, List.set_cons_succ, i64_w, i32_w]
        rfl
      refine take_ (i := 17) (N := some 116) (v := ?_) (a' := ?_) #[true, true, true, true, true, true, true, true, true, true, true, true, true, true, true, true, true, true, true, false, false, true, false, false, false, false, false, false] rfl rfl (by kernel_rfl) (fun _ _ _ h => h) (Or.inl ⟨by rfl, ?_⟩) hHeld ?_ ?_
      rotate_left
      · rintro w' ⟨s0, s1, s2⟩
        go_simp
        with_reducible rfl
      rotate_left
      · simp only [Act.put, List.setIfInBounds_toArray, List.set_cons_zero, List.set_cons_succ, i64_w, i32_w]
        rfl
      refine take_ (i := 19) (N := some 118) (v := ?_) (a' := ?_) #[true, true, true, true, true, true, true, true, true, true, true, true, true, true, true, true, true, true, true, true, false, true, false, false, false, false, false, false] rfl rfl (by kernel_rfl) (fun _ _ _ h => h) (Or.inl ⟨by rfl, ?_⟩) hHeld ?_ ?_
      rotate_left
      · rintro w' ⟨s0, s1, s2⟩
        go_simp
        with_reducible rfl
      rotate_left
      · simp only [Act.put, List.setIfInBounds_toArray, List.set_cons_zero, List.set_cons_succ, i64_w, i32_w]
        rfl
      refine pure_ (i := 20) (N := some 119) (v := ?_) (a' := ?_) #[true, true, true, true, true, true, true, true, true, true, true, true, true, true, true, true, true, true, true, true, true, true, false, false, false, false, false, false] rfl rfl (by kernel_rfl) (fun _ _ _ h => h) (Or.inl ⟨by rfl, ?_⟩) ?_ ?_
      rotate_left
      · intro w'
        go_simp
        with_reducible rfl
      rotate_left
      · simp only [Act.put, List.setIfInBounds_toArray, List.set_cons_zero, List.set_cons_succ, i64_w, i32_w]
        rfl
      refine pure_ (i := 22) (N := some 121) (v := ?_) (a' := ?_) #[true, true, true, true, true, true, true, true, true, true, true, true, true, true, true, true, true, true, true, true, true, true, true, false, false, false, false, false] rfl rfl (by kernel_rfl) (fun _ _ _ h => h) (Or.inl ⟨by rfl, ?_⟩) ?_ ?_
      rotate_left
      · intro w'
        go_simp
        with_reducible rfl
      rotate_left
      · simp only [Act.put, List.setIfInBounds_toArray, List.set_cons_zero, List.set_cons_succ, i64_w, i32_w]
        rfl
      refine pure_ (i := 23) (N := some 122) (v := ?_) (a' := ?_) #[true, true, true, true, true, true, true, true, true, true, true, true, true, true, true, true, true, true, true, true, true, true, true, true, false, false, false, false] rfl rfl (by kernel_rfl) (fun _ _ _ h => h) (Or.inl ⟨by rfl, ?_⟩) ?_ ?_
      rotate_left
      · intro w'
        go_simp
        with_reducible rfl
      rotate_left
      · simp only [Act.put, List.setIfInBounds_toArray, List.set_cons_zero, List.set_cons_succ, i64_w, i32_w]
        rfl
      refine pure_ (i := 24) (N := some 123) (v := ?_) (a' := ?_) #[true, true, true, true, true, true, true, true, true, true, true, true, true, true, true, true, true, true, true, true, true, true, true, true, true, false, false, false] rfl rfl (by kernel_rfl) (fun _ _ _ h => h) (Or.inl ⟨by rfl, ?_⟩) ?_ ?_
      rotate_left
      · intro w'
        go_simp
        with_reducible rfl
      rotate_left
      · simp only [Act.put, List.setIfInBounds_toArray, List.set_cons_zero, List.set_cons_succ, i64_w, i32_w]
        rfl
      refine one_ (i := 25) (N := some 124) #[true, true, true, true, true, true, true, true, true, true, true, true, true, true, true, true, true, true, true, true, true, true, true, true, true, true, false, false] rfl rfl (by kernel_rfl) (by decide) (fun K hK => ?_)
      refine goes_ Try.func9 (by kernel_rfl) rfl #[] (by rfl) rfl rfl (by simp only [List.map_toArray, List.map_nil]) ?_
      with_reducible refine (alive_ok _).mono ?_
      rintro e w6 ⟨rfl, hb6⟩
      refine ⟨_, rfl, ?_⟩
      replace hb6 := Lib.hid hb6
      refine hK.out _ _ ⟨pw_cell_below hb6.out hHeld.1, pw_cell_below hb6.out hHeld.2.1, pw_cell_below hb6.out hHeld.2.2⟩ (fun hHeld => ?_)
      clear hK K
      refine norm_ (a' := ?_) ?_ ?_
      rotate_left
      · show Act.put _ (some 124) _ = _
        simp only [Act.put, List.setIfInBounds_toArray, List.set_cons_zero, List.set_cons_succ, i64_w, i32_w]
        rfl
      refine pure_ (i := 26) (N := some 125) (v := ?_) (a' := ?_) #[true, true, true, true, true, true, true, true, true, true, true, true, true, true, true, true, true, true, true, true, true, true, true, true, true, true, true, false] rfl rfl (by kernel_rfl) (fun _ _ _ h => h) (Or.inl ⟨by rfl, ?_⟩) ?_ ?_
      rotate_left
      · intro w'
        go_simp
        with_reducible rfl
      rotate_left
      · simp only [Act.put, List.setIfInBounds_toArray, List.set_cons_zero, List.set_cons_succ, i64_w, i32_w]
        rfl
      refine pure_ (i := 27) (N := some 4) (v := ?_) (a' := ?_) #[true, true, true, true, true, true, true, true, true, true, true, true, true, true, true, true, true, true, true, true, true, true, true, true, true, true, true, true] rfl rfl (by kernel_rfl) (fun _ _ _ h => h) (Or.inl ⟨by rfl, ?_⟩) ?_ ?_
      rotate_left
      · intro w'
        go_simp
        with_reducible rfl
      rotate_left
      · simp only [Act.put, List.setIfInBounds_toArray, List.set_cons_zero, List.set_cons_succ, i64_w, i32_w]
        rfl
      refine done_ (by kernel_rfl) ?_
      clear hHeld
      go_wp2_with fail
      go_ret
      exact ⟨by simp, (below_step (pw_below_drewN hT.out.bel 1) hb6.out)⟩
end Go.Proofs.Ytecgbhiebaiokaa.G
