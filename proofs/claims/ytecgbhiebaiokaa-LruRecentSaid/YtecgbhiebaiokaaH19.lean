/- The walk of the law LruRecent. -/
import Derived.Test.YtecgbhiebaiokaaH18
namespace Go.Proofs.Ytecgbhiebaiokaa.G
open Go.RowKit Go.Proofs.YtecgbhiebaiokaaW.PrintWords Go.Proofs.YtecgbhiebaiokaaW.PrintLast Go.Proofs.YtecgbhiebaiokaaW.PrintMore
set_option linter.unusedSimpArgs false
set_option linter.unusedVariables false
def Fill (w0 W : World) (gm gb : Nat) (a : Int) (c : Nat) : Prop := ∃ h m g L, Side w0 W gm gb a h m g L (.slice none 0 0) [] ∧ Cs c h m g
def Lately (w0 W : World) (gm gb : Nat) (a : Int) (c : Nat) (key : Int) (v : Value) (O : List Int) : Prop := ∃ h m g L, Side w0 W gm gb a h m g L v O ∧ Cs c h m g ∧ Rec key 77 (kv L) O
variable (w : World)
set_option maxRecDepth 100000 in
set_option maxHeartbeats 4000000 in
theorem LruRecent_bad (most key : Int) (A : Option Addr) (n c : Nat) (h : most < 1 ∨ 4096 < most) :
    Calls Try.prog 3 #[.int .i64 most, .int .i64 key, .slice A n c] w fun e w' => e = .returned (.bool true) ∧ Below w.heap.size w w' := by
  by_cases h1 : most < 1
  · go_enter Try.func3, Try.ntmps3
    go_wp2_with fail
    refine (New_I_bad most _ h).mono ?_
    rintro e w1 ⟨rfl, rfl⟩
    go_wp2_with (first | (go_at_call 9; go_must (refine (alive_ok _).mono ?_); rintro e w3 ⟨rfl, hbe3⟩; replace hbe3 := Lib.hid hbe3))
    go_ret
    exact ⟨rfl, hbe3.out⟩
  · have h2 : 4096 < most := by omega
    go_enter Try.func3, Try.ntmps3
    go_wp2_with fail
    refine (New_I_bad most _ h).mono ?_
    rintro e w1 ⟨rfl, rfl⟩
    go_wp2_with (first | (go_at_call 9; go_must (refine (alive_ok _).mono ?_); rintro e w3 ⟨rfl, hbe3⟩; replace hbe3 := Lib.hid hbe3))
    go_ret
    exact ⟨rfl, hbe3.out⟩
set_option maxRecDepth 100000 in
set_option maxHeartbeats 8000000 in
theorem LruRecent_good (a : Nat) (key : Int) (A : Option Addr) (c : Nat) (ps : List ActL) (ha1 : 1 ≤ a) (ha2 : a ≤ 4096) (hkey : InI key) (hr : ActsRd w A ps) (hlen2 : ps.length ≤ 1000000000000000) :
    Calls Try.prog 3 #[.int .i64 a, .int .i64 key, .slice A ps.length c] w fun e w' => e = .returned (.bool true) ∧ Below w.heap.size w w' := by
  have HR := Lib.hid hr
  have hlen := hr.1
  replace hkey := Lib.hid hkey
  clear hr
  go_enter Try.func3, Try.ntmps3
  go_wp2_with fail
  refine (New_I a _ (by omega) (by omega)).mono ?_
  rintro e w1 ⟨gm, gb, rfl, hM, hbe1⟩
  have hS : Hid (Fill w w1 gm gb a 0) := ⟨_, _, _, _, ⟨hM, own_nil _ _ _ _, hbe1⟩, ⟨by omega, by omega, by omega⟩⟩
  clear hM hbe1
  go_wp2_with fail
  go_loopw [43] (fun i wr => ∃ (k : Nat), i = .int .i64 k ∧ k ≤ ps.length ∧ Hid (Fill w wr gm gb a k)) (fun i _ => ps.length - (intOf i).toNat)
  case atStart => exact ⟨0, rfl, by omega, hS⟩
  case round =>
    clear hS
    obtain ⟨k, rfl, hk, hS⟩ := hrel
    by_cases hlt : k < ps.length
    · obtain ⟨ad, rfl, hX⟩ := HR.out.2 k hlt
      obtain ⟨p, hpe⟩ : ∃ p, p = ps[k] := ⟨_, rfl⟩
      rw [← hpe] at hX
      clear hpe
      obtain ⟨hm, mm, om, Lm, hT, hcm⟩ := hS.out
      obtain ⟨A1, c1, q0, q1, q2, q3, hP, hok, -⟩ := hX
      have hbel := hT.bel
      replace q0 := pw_cell_below hbel q0
      replace q1 := pw_cell_below hbel q1
      replace q2 := pw_cell_below hbel q2
      replace q3 := pw_cell_below hbel q3
      clear hbel hP hS
      replace hok := Lib.hid hok
      replace hT := Lib.hid hT
      replace hcm := Lib.hid hcm
      go_wp2_with fail
      replace hT := Lib.hid (hT.out.thin (below_alloc (Below.refl _ wr) (.cells #[.int .i64 p.kind, .int .i64 p.k, .int .i64 p.v, .slice A1 p.keys.length c1] 30)))
      obtain ⟨W, hW⟩ : ∃ W, W = wr.alloc (.cells #[.int .i64 p.kind, .int .i64 p.k, .int .i64 p.v, .slice A1 p.keys.length c1] 30) := ⟨_, rfl⟩
      rw [← hW] at hT ⊢
      clear hW q0 q1 q2 q3
      refine (Put_kv W w.heap.size gm gb a hm mm om Lm p.k p.v a rfl hT.out.bel.size hT.out.me hok.out.k.ok (by have := hcm.out.g; omega)).mono ?_
      rintro e w4 ⟨rfl, Lm', hs⟩
      have hS5 : Hid (Fill w w4 gm gb a (k + 1)) := ⟨_, _, _, _, hT.out.step hs, hcm.out.put _⟩
      clear hs hT
      go_wp2_with fail
      go_roundw
      case rel => exact ⟨k + 1, by go_num, by omega, hS5⟩
      case measure => simp [intOf]; omega
    · obtain ⟨hm, mm, om, Lm, hT, hcm⟩ := hS.out
      have hkl : k = ps.length := by omega
      replace hT := Lib.hid hT
      replace hcm := Lib.hid hcm
      clear hS
      go_wp2_with fail
      refine (Put_kv wr w.heap.size gm gb a hm mm om Lm key 77 a rfl hT.out.bel.size hT.out.me hkey.out.ok (by have := hcm.out.g; omega)).mono ?_
      rintro e w4 ⟨rfl, Lm', hs⟩
      have hS5 : Hid (Lately w w4 gm gb a (ps.length + 1 + 0) key (.slice none 0 0) []) := ⟨_, _, _, _, hT.out.step hs, by rw [hkl] at hcm; exact hcm.out.put _, by rw [hs.eq]; exact Rec.start⟩
      clear hs hT hcm hkl hk hlt
      generalize (kvOut a key (kv Lm)).getD 0 = z1
      generalize (kvOut a key (kv Lm)).isSome = z2
      clear Lm Lm' hm mm om
      go_wp2_with fail
      go_loopw [11, 59] (fun v i wr => ∃ (k : Nat) (O : List Int), i = .int .i64 k ∧ k ≤ ps.length ∧ O.length < a ∧ Hid (Lately w wr gm gb a (ps.length + 1 + k) key v O)) (fun _ i _ => ps.length - (intOf i).toNat)
      case atStart => exact ⟨0, [], rfl, by omega, by simp; omega, hS5⟩
      case round =>
        clear hS5
        obtain ⟨k, O, rfl, hk, hO, hS⟩ := hrel
        by_cases hlt : k < ps.length
        · obtain ⟨ad, rfl, hX⟩ := HR.out.2 k hlt
          obtain ⟨p, hpe⟩ : ∃ p, p = ps[k] := ⟨_, rfl⟩
          rw [← hpe] at hX
          clear hpe
          obtain ⟨hm, mm, om, Lm, hT, hcm, hL⟩ := hS.out
          obtain ⟨A1, c1, q0, q1, q2, q3, hP, hok, -⟩ := hX
          have hbel := hT.bel
          replace q0 := pw_cell_below hbel q0
          replace q1 := pw_cell_below hbel q1
          replace q2 := pw_cell_below hbel q2
          replace q3 := pw_cell_below hbel q3
          clear hbel hP hS
          replace hok := Lib.hid hok
          replace hT := Lib.hid hT
          replace hcm := Lib.hid hcm
          replace hL := Lib.hid hL
          obtain ⟨A4, c4, rfl, -⟩ := own_rd hT.out.ow
          by_cases hkk : (p.k == key) = true
          · go_wp2_with fail
            go_roundw
            case rel => exact ⟨k + 1, O, by go_num, by omega, hO, ⟨hm, mm, om, Lm, hT.out.thin (below_alloc (Below.refl _ wr) (.cells #[.int .i64 p.kind, .int .i64 p.k, .int .i64 p.v, .slice A1 p.keys.length c1] 30)), hcm.out.look, hL.out⟩⟩
            case measure => simp [intOf]; omega
          · have hkf : (p.k == key) = false := by simpa using hkk
            have hne : Hid (p.k ≠ key) := fun h => hkk (by simp [h])
            clear hkk
            go_wp2_with fail
            · have hac := heap_alloc_new wr (.cells #[.int .i64 p.kind, .int .i64 p.k, .int .i64 p.v, .slice A1 p.keys.length c1] 30)
              have hfm : ∀ q, FM gm gb Lm q → q ≠ wr.heap.size := fun q hq he => by have := (hT.out.me.fm q hq).2; omega
              replace hT := Lib.hid (hT.out.thin (below_alloc (Below.refl _ wr) (.cells #[.int .i64 p.kind, .int .i64 p.k, .int .i64 p.v, .slice A1 p.keys.length c1] 30)))
              obtain ⟨W, hW⟩ : ∃ W, W = wr.alloc (.cells #[.int .i64 p.kind, .int .i64 p.k, .int .i64 p.v, .slice A1 p.keys.length c1] 30) := ⟨_, rfl⟩
              rw [← hW] at hT hac ⊢
              clear hW q0 q1 q2 q3
              refine (Put_kv W w.heap.size gm gb a hm mm om Lm p.k p.v a rfl hT.out.bel.size hT.out.me hok.out.k.ok (by have := hcm.out.g; omega)).mono ?_
              rintro e w4 ⟨rfl, Lm', hs⟩
              have q1 := blk_cell (hs.ch.blk hac (fun hf => hfm _ hf rfl)) 1
              simp only [List.getElem?_toArray, List.getElem?_cons_zero, List.getElem?_cons_succ] at q1
              have hpos : Hid (1 ≤ Lm'.length) := by rw [← kv_len, hs.eq]; exact put_pos _ _ _ _
              have hR : Hid ((addO p.k O).length < a → Rec key 77 (kv Lm') (addO p.k O)) := fun hlt2 => by
                rw [hs.eq]
                exact hL.out.put (kv_uniq hT.out.me.uq) hne.out (by rw [kv_len]; have := hT.out.me.ln; omega) hlt2
              have hT4 := Lib.hid (hT.out.step hs)
              have hcm4 := Lib.hid (hcm.out.put (kvOut a p.k (kv Lm)))
              clear hs hac hfm hL hT hcm
              generalize (kvOut a p.k (kv Lm)).getD 0 = z1
              generalize (kvOut a p.k (kv Lm)).isSome = z2
              go_wp2_with fail
              go_loopw [16, 88] (fun kn j wj => w4 = wj ∧ ∃ (i : Nat) (b : Bool), kn = .bool b ∧ j = .int .i64 i ∧ i ≤ O.length ∧ Hid (b = (O.take i).any (fun x => x == p.k))) (fun _ j _ => O.length - (intOf j).toNat)
              case atStart => exact ⟨rfl, 0, false, rfl, rfl, by omega, rfl⟩
              case round =>
                obtain ⟨rfl, i, b, rfl, rfl, hi, hb⟩ := hrel
                by_cases hil : i < O.length
                · obtain ⟨A5, c5, he5, hrd⟩ := own_rd hT4.out.ow
                  simp only [Value.slice.injEq] at he5
                  obtain ⟨rfl, -, -⟩ := he5
                  obtain ⟨ad5, rfl, hc5⟩ := hrd.at_ (i : Int) (by omega) (by omega)
                  rw [Int.toNat_natCast] at hc5
                  obtain ⟨z, hz⟩ : ∃ z, z = rd O i := ⟨_, rfl⟩
                  rw [← hz] at hc5
                  have hz2 : Hid (z = O[i]) := by
                    show _ = _
                    rw [hz]
                    unfold rd
                    rw [Int.toNat_natCast, List.getD_eq_getElem?_getD, List.getElem?_eq_getElem hil]
                    rfl
                  clear hz hrd
                  cases b with
                  | true =>
                    go_wp2_with fail
                    go_roundw
                    case rel =>
                      refine ⟨trivial, i + 1, true, rfl, by go_num, by omega, ?_⟩
                      show _ = _
                      rw [List.take_succ_eq_append_getElem hil, List.any_append, ← hb.out]
                      rfl
                    case measure => simp [intOf]; omega
                  | false =>
                    go_wp2_with fail
                    go_roundw
                    case rel =>
                      refine ⟨trivial, i + 1, (z == p.k), rfl, by go_num, by omega, ?_⟩
                      show _ = _
                      rw [List.take_succ_eq_append_getElem hil, List.any_append, ← hb.out, hz2.out]
                      simp
                    case measure => simp [intOf]; omega
                · have hin : i = O.length := by omega
                  have hb2 : Hid (b = O.any (fun x => x == p.k)) := by
                    show _ = _
                    have := hb.out
                    rwa [hin, List.take_length] at this
                  clear hb
                  cases b with
                  | true =>
                    have hO2 : addO p.k O = O := by unfold addO; rw [if_pos hb2.out.symm]
                    rw [hO2] at hR
                    clear hb2 hO2
                    go_wp2_with fail
                    have hln : Lm'.length ≤ a := by
                      have := hT4.out.me.ln
                      omega
                    have hl2 : ¬ ((a : Int) < (Lm'.length : Int)) := by omega
                    have hl1 : ¬ ((Lm'.length : Int) < 1) := by have := hpos.out; omega
                    clear hln
                    by_cases hOa : O.length < a
                    · have hR2 := Lib.hid (hR.out hOa)
                      have hg := Look_kv w4 w.heap.size gm gb a _ _ _ Lm' key hT4.out.me hkey.out.ok
                      rw [hR2.out.look (kv_uniq hT4.out.me.uq)] at hg
                      refine hg.mono ?_
                      clear hg
                      rintro e w9 ⟨rfl, rfl⟩
                      have hl3 : (O.length : Int) < (a : Int) := by omega
                      have hl4 : ¬ ((a : Int) ≤ (O.length : Int)) := by omega
                      go_wp2_with (first | (go_at_call 13; go_must (refine (Len_I _ _ _ _ _ _ _ _ _ hT4.out.me).mono ?_); rintro e w10 ⟨rfl, rfl⟩) | (go_at_call 9; go_must (refine (alive_ok _).mono ?_); rintro e w6 ⟨rfl, hb6⟩; replace hb6 := Lib.hid (below_step hT4.out.bel hb6)))
                      go_roundw
                      case rel => exact ⟨k + 1, O, by go_num, by omega, hOa, ⟨_, _, _, _, hT4.out, hcm4.out, hR2.out⟩⟩
                      case measure => simp [intOf]; omega
                    · exact absurd hO hOa
                  | false =>
                    have hO2 : addO p.k O = O ++ [p.k] := by unfold addO; rw [if_neg (by rw [← hb2.out]; simp)]
                    rw [hO2] at hR
                    clear hb2 hO2
                    go_wp2_with ((with_reducible refine gate_builtin (b := .append) (xs := #[.tmp 102, .tmp 105]) rfl ?_); go_must (refine app1 (w0 := w) rfl (.tmp 102) (.tmp 105) rfl (.slice A4 O.length c4) O p.k rfl rfl (Lib.hid hT4.out.ow) (Lib.hid hT4.out.bel) hT4.out.bel.size (by omega) ?_); intro v8 w8 ho8 hb8 hg8; obtain ⟨O2, hO2e⟩ : ∃ O2, O2 = O ++ [p.k] := ⟨_, rfl⟩; rw [← hO2e] at ho8 hR; replace hO2e := Lib.hid hO2e; replace hT4 := Lib.hid (hT4.out.grow ho8.out hb8.out hg8.out); obtain ⟨A8, c8, rfl, -⟩ := own_rd ho8.out; clear ho8 hb8 hg8)
                    have hln : Lm'.length ≤ a := by
                      have := hT4.out.me.ln
                      omega
                    have hl2 : ¬ ((a : Int) < (Lm'.length : Int)) := by omega
                    have hl1 : ¬ ((Lm'.length : Int) < 1) := by have := hpos.out; omega
                    clear hln
                    by_cases hOa : O2.length < a
                    · have hR2 := Lib.hid (hR.out hOa)
                      have hg := Look_kv w8 w.heap.size gm gb a _ _ _ Lm' key hT4.out.me hkey.out.ok
                      rw [hR2.out.look (kv_uniq hT4.out.me.uq)] at hg
                      refine hg.mono ?_
                      clear hg
                      rintro e w9 ⟨rfl, rfl⟩
                      have hl3 : (O2.length : Int) < (a : Int) := by omega
                      have hl4 : ¬ ((a : Int) ≤ (O2.length : Int)) := by omega
                      go_wp2_with (first | (go_at_call 13; go_must (refine (Len_I _ _ _ _ _ _ _ _ _ hT4.out.me).mono ?_); rintro e w10 ⟨rfl, rfl⟩) | (go_at_call 9; go_must (refine (alive_ok _).mono ?_); rintro e w6 ⟨rfl, hb6⟩; replace hb6 := Lib.hid (below_step hT4.out.bel hb6)))
                      go_roundw
                      case rel => exact ⟨k + 1, O2, by go_num, by omega, hOa, ⟨_, _, _, _, hT4.out, hcm4.out, hR2.out⟩⟩
                      case measure => simp [intOf]; omega
                    · have hg := Look_kv w8 w.heap.size gm gb a _ _ _ Lm' key hT4.out.me hkey.out.ok
                      obtain ⟨x2, hx2⟩ : ∃ x2, x2 = (kvLook key (kv Lm')).getD 0 := ⟨_, rfl⟩
                      obtain ⟨b2, hb2⟩ : ∃ b2, b2 = (kvLook key (kv Lm')).isSome := ⟨_, rfl⟩
                      rw [← hx2, ← hb2] at hg
                      refine hg.mono ?_
                      clear hg
                      rintro e w9 ⟨rfl, rfl⟩
                      clear hx2 hb2
                      have hl3 : ¬ ((O2.length : Int) < (a : Int)) := by omega
                      have hl4 : (a : Int) ≤ (O2.length : Int) := by omega
                      go_wp2_with (first | (go_at_call 13; go_must (refine (Len_I _ _ _ _ _ _ _ _ _ hT4.out.me).mono ?_); rintro e w10 ⟨rfl, rfl⟩) | (go_at_call 9; go_must (refine (alive_ok _).mono ?_); rintro e w6 ⟨rfl, hb6⟩; replace hb6 := Lib.hid (below_step hT4.out.bel hb6)))
                      go_ret
                      exact ⟨rfl, hb6.out⟩
            · have hac := heap_alloc_new wr (.cells #[.int .i64 p.kind, .int .i64 p.k, .int .i64 p.v, .slice A1 p.keys.length c1] 30)
              have hfm : ∀ q, FM gm gb Lm q → q ≠ wr.heap.size := fun q hq he => by have := (hT.out.me.fm q hq).2; omega
              replace hT := Lib.hid (hT.out.thin (below_alloc (Below.refl _ wr) (.cells #[.int .i64 p.kind, .int .i64 p.k, .int .i64 p.v, .slice A1 p.keys.length c1] 30)))
              obtain ⟨W, hW⟩ : ∃ W, W = wr.alloc (.cells #[.int .i64 p.kind, .int .i64 p.k, .int .i64 p.v, .slice A1 p.keys.length c1] 30) := ⟨_, rfl⟩
              rw [← hW] at hT hac ⊢
              clear hW q0 q1 q2 q3
              cases hl : kvLook p.k (kv Lm) with
              | none =>
                have hg := Get_kv W w.heap.size gm gb a hm mm om Lm p.k hT.out.me hok.out.k.ok (by have := hcm.out.h; omega) (by have := hcm.out.m; omega)
                rw [hl] at hg
                refine hg.mono ?_
                clear hg
                rintro e w4 ⟨rfl, Lm', hs⟩
                have hS5 : Hid (Lately w w4 gm gb a (ps.length + 1 + (k + 1)) key (.slice A4 O.length c4) O) := ⟨_, _, _, _, hT.out.step hs, hcm.out.get _, by rw [hs.eq]; unfold kvGet; rw [hl]; exact hL.out⟩
                clear hs hT hac hL hcm
                go_wp2_with fail
                go_roundw
                case rel => exact ⟨k + 1, O, by go_num, by omega, hO, hS5⟩
                case measure => simp [intOf]; omega
              | some x1 =>
                have hg := Get_kv W w.heap.size gm gb a hm mm om Lm p.k hT.out.me hok.out.k.ok (by have := hcm.out.h; omega) (by have := hcm.out.m; omega)
                rw [hl] at hg
                refine hg.mono ?_
                clear hg
                rintro e w4 ⟨rfl, Lm', hs⟩
                have q1 := blk_cell (hs.ch.blk hac (fun hf => hfm _ hf rfl)) 1
                simp only [List.getElem?_toArray, List.getElem?_cons_zero, List.getElem?_cons_succ] at q1
                have hpos : Hid (1 ≤ Lm'.length) := by rw [← kv_len, hs.eq]; exact get_pos hl
                have hR : Hid ((addO p.k O).length < a → Rec key 77 (kv Lm') (addO p.k O)) := fun hlt2 => by
                  rw [hs.eq]
                  exact hL.out.get hne.out hl
                have hT4 := Lib.hid (hT.out.step hs)
                have hcm4 := Lib.hid (hcm.out.get (some x1))
                clear hs hac hfm hL hT hcm hl
                generalize hm + hitI (some x1) = hm at *
                generalize mm + missI (some x1) = mm at *
                go_wp2_with fail
                go_loopw [16, 88] (fun kn j wj => w4 = wj ∧ ∃ (i : Nat) (b : Bool), kn = .bool b ∧ j = .int .i64 i ∧ i ≤ O.length ∧ Hid (b = (O.take i).any (fun x => x == p.k))) (fun _ j _ => O.length - (intOf j).toNat)
                case atStart => exact ⟨rfl, 0, false, rfl, rfl, by omega, rfl⟩
                case round =>
                  obtain ⟨rfl, i, b, rfl, rfl, hi, hb⟩ := hrel
                  by_cases hil : i < O.length
                  · obtain ⟨A5, c5, he5, hrd⟩ := own_rd hT4.out.ow
                    simp only [Value.slice.injEq] at he5
                    obtain ⟨rfl, -, -⟩ := he5
                    obtain ⟨ad5, rfl, hc5⟩ := hrd.at_ (i : Int) (by omega) (by omega)
                    rw [Int.toNat_natCast] at hc5
                    obtain ⟨z, hz⟩ : ∃ z, z = rd O i := ⟨_, rfl⟩
                    rw [← hz] at hc5
                    have hz2 : Hid (z = O[i]) := by
                      show _ = _
                      rw [hz]
                      unfold rd
                      rw [Int.toNat_natCast, List.getD_eq_getElem?_getD, List.getElem?_eq_getElem hil]
                      rfl
                    clear hz hrd
                    cases b with
                    | true =>
                      go_wp2_with fail
                      go_roundw
                      case rel =>
                        refine ⟨trivial, i + 1, true, rfl, by go_num, by omega, ?_⟩
                        show _ = _
                        rw [List.take_succ_eq_append_getElem hil, List.any_append, ← hb.out]
                        rfl
                      case measure => simp [intOf]; omega
                    | false =>
                      go_wp2_with fail
                      go_roundw
                      case rel =>
                        refine ⟨trivial, i + 1, (z == p.k), rfl, by go_num, by omega, ?_⟩
                        show _ = _
                        rw [List.take_succ_eq_append_getElem hil, List.any_append, ← hb.out, hz2.out]
                        simp
                      case measure => simp [intOf]; omega
                  · have hin : i = O.length := by omega
                    have hb2 : Hid (b = O.any (fun x => x == p.k)) := by
                      show _ = _
                      have := hb.out
                      rwa [hin, List.take_length] at this
                    clear hb
                    cases b with
                    | true =>
                      have hO2 : addO p.k O = O := by unfold addO; rw [if_pos hb2.out.symm]
                      rw [hO2] at hR
                      clear hb2 hO2
                      go_wp2_with fail
                      have hln : Lm'.length ≤ a := by
                        have := hT4.out.me.ln
                        omega
                      have hl2 : ¬ ((a : Int) < (Lm'.length : Int)) := by omega
                      have hl1 : ¬ ((Lm'.length : Int) < 1) := by have := hpos.out; omega
                      clear hln
                      by_cases hOa : O.length < a
                      · have hR2 := Lib.hid (hR.out hOa)
                        have hg := Look_kv w4 w.heap.size gm gb a _ _ _ Lm' key hT4.out.me hkey.out.ok
                        rw [hR2.out.look (kv_uniq hT4.out.me.uq)] at hg
                        refine hg.mono ?_
                        clear hg
                        rintro e w9 ⟨rfl, rfl⟩
                        have hl3 : (O.length : Int) < (a : Int) := by omega
                        have hl4 : ¬ ((a : Int) ≤ (O.length : Int)) := by omega
                        go_wp2_with (first | (go_at_call 13; go_must (refine (Len_I _ _ _ _ _ _ _ _ _ hT4.out.me).mono ?_); rintro e w10 ⟨rfl, rfl⟩) | (go_at_call 9; go_must (refine (alive_ok _).mono ?_); rintro e w6 ⟨rfl, hb6⟩; replace hb6 := Lib.hid (below_step hT4.out.bel hb6)))
                        go_roundw
                        case rel => exact ⟨k + 1, O, by go_num, by omega, hOa, ⟨_, _, _, _, hT4.out, hcm4.out, hR2.out⟩⟩
                        case measure => simp [intOf]; omega
                      · exact absurd hO hOa
                    | false =>
                      have hO2 : addO p.k O = O ++ [p.k] := by unfold addO; rw [if_neg (by rw [← hb2.out]; simp)]
                      rw [hO2] at hR
                      clear hb2 hO2
                      go_wp2_with ((with_reducible refine gate_builtin (b := .append) (xs := #[.tmp 102, .tmp 105]) rfl ?_); go_must (refine app1 (w0 := w) rfl (.tmp 102) (.tmp 105) rfl (.slice A4 O.length c4) O p.k rfl rfl (Lib.hid hT4.out.ow) (Lib.hid hT4.out.bel) hT4.out.bel.size (by omega) ?_); intro v8 w8 ho8 hb8 hg8; obtain ⟨O2, hO2e⟩ : ∃ O2, O2 = O ++ [p.k] := ⟨_, rfl⟩; rw [← hO2e] at ho8 hR; replace hO2e := Lib.hid hO2e; replace hT4 := Lib.hid (hT4.out.grow ho8.out hb8.out hg8.out); obtain ⟨A8, c8, rfl, -⟩ := own_rd ho8.out; clear ho8 hb8 hg8)
                      have hln : Lm'.length ≤ a := by
                        have := hT4.out.me.ln
                        omega
                      have hl2 : ¬ ((a : Int) < (Lm'.length : Int)) := by omega
                      have hl1 : ¬ ((Lm'.length : Int) < 1) := by have := hpos.out; omega
                      clear hln
                      by_cases hOa : O2.length < a
                      · have hR2 := Lib.hid (hR.out hOa)
                        have hg := Look_kv w8 w.heap.size gm gb a _ _ _ Lm' key hT4.out.me hkey.out.ok
                        rw [hR2.out.look (kv_uniq hT4.out.me.uq)] at hg
                        refine hg.mono ?_
                        clear hg
                        rintro e w9 ⟨rfl, rfl⟩
                        have hl3 : (O2.length : Int) < (a : Int) := by omega
                        have hl4 : ¬ ((a : Int) ≤ (O2.length : Int)) := by omega
                        go_wp2_with (first | (go_at_call 13; go_must (refine (Len_I _ _ _ _ _ _ _ _ _ hT4.out.me).mono ?_); rintro e w10 ⟨rfl, rfl⟩) | (go_at_call 9; go_must (refine (alive_ok _).mono ?_); rintro e w6 ⟨rfl, hb6⟩; replace hb6 := Lib.hid (below_step hT4.out.bel hb6)))
                        go_roundw
                        case rel => exact ⟨k + 1, O2, by go_num, by omega, hOa, ⟨_, _, _, _, hT4.out, hcm4.out, hR2.out⟩⟩
                        case measure => simp [intOf]; omega
                      · have hg := Look_kv w8 w.heap.size gm gb a _ _ _ Lm' key hT4.out.me hkey.out.ok
                        obtain ⟨x2, hx2⟩ : ∃ x2, x2 = (kvLook key (kv Lm')).getD 0 := ⟨_, rfl⟩
                        obtain ⟨b2, hb2⟩ : ∃ b2, b2 = (kvLook key (kv Lm')).isSome := ⟨_, rfl⟩
                        rw [← hx2, ← hb2] at hg
                        refine hg.mono ?_
                        clear hg
                        rintro e w9 ⟨rfl, rfl⟩
                        clear hx2 hb2
                        have hl3 : ¬ ((O2.length : Int) < (a : Int)) := by omega
                        have hl4 : (a : Int) ≤ (O2.length : Int) := by omega
                        go_wp2_with (first | (go_at_call 13; go_must (refine (Len_I _ _ _ _ _ _ _ _ _ hT4.out.me).mono ?_); rintro e w10 ⟨rfl, rfl⟩) | (go_at_call 9; go_must (refine (alive_ok _).mono ?_); rintro e w6 ⟨rfl, hb6⟩; replace hb6 := Lib.hid (below_step hT4.out.bel hb6)))
                        go_ret
                        exact ⟨rfl, hb6.out⟩
        · obtain ⟨hm, mm, om, Lm, hT, hcm, hL⟩ := hS.out
          have hpos : Hid (1 ≤ Lm.length) := by
            have := hL.len (kv_uniq hT.me.uq)
            rw [kv_len] at this
            show _ ≤ _
            omega
          replace hT := Lib.hid hT
          clear hS hcm hL
          have hln : Hid (Lm.length ≤ a) := by
            have := hT.out.me.ln
            show _ ≤ _
            omega
          have hl1 : ¬ ((Lm.length : Int) < 1) := by have := hpos.out; omega
          have hl2 : ¬ ((a : Int) < (Lm.length : Int)) := by have := hln.out; omega
          go_wp2_with (first | (go_at_call 13; go_must (refine (Len_I _ w.heap.size gm gb a hm mm om Lm hT.out.me).mono ?_); rintro e w5 ⟨rfl, rfl⟩) | (go_at_call 9; go_must (refine (alive_ok _).mono ?_); rintro e w6 ⟨rfl, hb6⟩; replace hb6 := Lib.hid (below_step hT.out.bel hb6)))
          go_ret
          exact ⟨rfl, hb6.out⟩
end Go.Proofs.Ytecgbhiebaiokaa.G
