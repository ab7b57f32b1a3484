/- The contracts of Resize and Uses. -/
import Derived.Test.YtecgbhiebaiokaaH22
namespace Go.Proofs.Ytecgbhiebaiokaa.G
open Go.RowKit Go.Proofs.YtecgbhiebaiokaaW.PrintWords Go.Proofs.YtecgbhiebaiokaaW.PrintLast Go.Proofs.YtecgbhiebaiokaaW.PrintMore
set_option linter.unusedSimpArgs false
set_option linter.unusedVariables false
def lenV : Value → Nat
  | .slice _ n _ => n
  | _ => 0
/-- a memo on its way to another size -/
structure Shr (w wr : World) (B gm gb : Nat) (most h m g : Int) (L Lj : List (Ent Int)) (j : Nat) (v : Value) : Prop where
  lo : Loose wr B gm gb most h m (g + j) Lj
  eq : kv Lj = (kv L).take (L.length - j)
  ch : Chg w wr (FM gm gb L)
  fm : ∀ q, FM gm gb Lj q → FM gm gb L q ∨ w.heap.size ≤ q
  ow : Own wr w.heap.size v (kvGone (L.length - j) (kv L))
theorem Shr.len {w wr : World} {B gm gb : Nat} {most h m g : Int} {L Lj : List (Ent Int)} {j : Nat} {v : Value} (s : Shr w wr B gm gb most h m g L Lj j v) : Lj.length = L.length - j := by
  rw [← kv_len, s.eq, List.length_take, kv_len]
  omega
theorem Resize_bad (w : World) (B gm gb : Nat) (most h m g : Int) (L : List (Ent Int)) (n : Int) (hM : Memo ktI w B gm gb most h m g L) (hn : n < 1 ∨ 4096 < n) :
    Calls Try.prog 15 #[.pointer (some ⟨gm, 0, none⟩), .int .i64 n] w fun e w' => e = .returned (.tuple #[.slice none 0 0, .int .i64 1]) ∧ w = w' := by
  have HM := Lib.hid hM
  clear hM
  by_cases h1 : n < 1
  · clear hn
    go_enter Try.func15, Try.ntmps15
    go_wp2_with (first | (go_at_call 28; go_must (refine (made_I w B gm gb most h m g L HM.out).mono ?_); rintro e w' ⟨rfl, rfl⟩))
    go_ret2
    exact ⟨rfl, rfl⟩
  · have h2 : 4096 < n := by omega
    clear hn
    go_enter Try.func15, Try.ntmps15
    go_wp2_with (first | (go_at_call 28; go_must (refine (made_I w B gm gb most h m g L HM.out).mono ?_); rintro e w' ⟨rfl, rfl⟩))
    go_ret2
    exact ⟨rfl, rfl⟩
set_option maxRecDepth 100000 in
set_option maxHeartbeats 4000000 in
theorem Resize_kv (w : World) (B gm gb : Nat) (most h m g : Int) (L : List (Ent Int)) (n : Nat) (hM : Memo ktI w B gm gb most h m g L) (hB : B ≤ w.heap.size) (hn1 : 1 ≤ n) (hn2 : n ≤ 4096) (hg : g + 4096 ≤ 1152921504606846976) :
    Calls Try.prog 15 #[.pointer (some ⟨gm, 0, none⟩), .int .i64 n] w fun e w' => ∃ v, e = .returned (.tuple #[v, .int .i64 0]) ∧ Own w' w.heap.size v (kvGone n (kv L)) ∧ ∃ L', Step w w' B gm gb n h m (g + (L.length - n : Nat)) L L' ((kv L).take n) := by
  have hl4 : L.length ≤ 4096 := by have := hM.ln; have := hM.m2; omega
  have h1 : ¬ ((n : Int) < 1) := by omega
  have h2 : ¬ (4096 < (n : Int)) := by omega
  have q0 := blk_cell hM.ch.mem 0
  have f0 := blk_frozen hM.ch.mem 0
  simp only [List.getElem?_toArray, List.getElem?_cons_zero, List.getElem?_cons_succ] at q0
  have hgg := hM.g0
  have hS : Hid (Shr w (w.setCell ⟨gm, 0, none⟩ (.int .i64 n)) B gm gb n h m g L L 0 (.slice none 0 0)) := by
    have hc0 : Chg w (w.setCell ⟨gm, 0, none⟩ (.int .i64 n)) (fun q => q = gm) := (Chg.refl w (fun q => q = gm)).set_ rfl _
    refine ⟨⟨⟨set_row hM.ch.mem 0 _ _ (by rw [show g + ((0 : Nat) : Int) = g from by simp]; rfl), hM.ch.row.far (hM.ch.mem.ne hM.ch.row (by decide)) _, hM.ch.gu⟩, hM.mp.chg hc0 (fun hq => hM.mp.ne hM.ch.mem hq.symm), hM.bm, hM.bb, hM.bg, hM.uq, hM.okk, hM.h0, hM.h1, hM.i0, hM.i1, by omega, by omega⟩, ?_, hc0.mono (fun q _ hq => .inl hq), fun q hq => .inl hq, ?_⟩
    · rw [Nat.sub_zero, ← kv_len, List.take_length]
    · rw [Nat.sub_zero, kvGone_all (by rw [kv_len]; exact Nat.le_refl _)]
      exact own_nil _ _ _ _
  have HM := Lib.hid hM
  clear hM
  go_enter Try.func15, Try.ntmps15
  go_wp2_with (first | (go_at_call 28; go_must (refine (made_I w B gm gb most h m g L HM.out).mono ?_); rintro e w' ⟨rfl, rfl⟩))
  go_loopw [6] (fun v wr => ∃ (j : Nat) (Lj : List (Ent Int)), lenV v = j ∧ j ≤ L.length ∧ j ≤ L.length - n ∧ Hid (Shr w wr B gm gb n h m g L Lj j v)) (fun v _ => L.length - lenV v)
  case atStart => exact ⟨0, L, rfl, by omega, by omega, hS⟩
  case round =>
    clear hS q0 f0
    obtain ⟨j, Lj, hv, hj, hjn, hS⟩ := hrel
    have hlen := hS.out.len
    have qm : wr.cell? ⟨gm, 1, none⟩ = some (.map (some gb)) := blk_cell hS.out.lo.ch.mem 1
    have hln : ∀ ty, (Builtin.len_ #[63] ty #[.map (some gb)]).run Try.prog wr = .ok (.int .i64 Lj.length) wr := fun ty => hS.out.lo.mp.len klI ty
    obtain ⟨l0, hl0⟩ : ∃ l0, l0 = kvGone (L.length - j) (kv L) := ⟨_, rfl⟩
    have hl0n : l0.length = j := by rw [hl0, kvGone_len, kv_len]; omega
    have hol := hS.out.ow
    rw [← hl0] at hol
    obtain ⟨Av, cv, rfl, -⟩ := own_rd hol
    have hS0 := hS.out
    replace hl0n := Lib.hid hl0n
    replace hol := Lib.hid hol
    by_cases hlt : n < Lj.length
    · have hd : ((n : Int) < (Lj.length : Int)) := by omega
      obtain ⟨q, hq⟩ : ∃ q, q + 1 = Lj.length := ⟨Lj.length - 1, by omega⟩
      have hgo := Lib.hid (gone_L wr B gm gb n h m (g + j) Lj q hq hS.out.lo (by omega))
      have hx : Hid (kvGone (L.length - (j + 1)) (kv L) = l0 ++ [(Lj[q]'(by omega)).k]) := by
        have e : L.length - j = L.length - (j + 1) + 1 := by omega
        have hqe : q = L.length - (j + 1) := by omega
        subst hqe
        show _ = _
        have hlt2 : L.length - (j + 1) < (kv L).length := by rw [kv_len]; omega
        rw [hl0, kvGone_step hlt2, ← e]
        congr 2
        have := hS.out.eq
        have h3 : (kv Lj)[L.length - (j + 1)]? = some (Lj[L.length - (j + 1)].k, Lj[L.length - (j + 1)].v) := by
          unfold kv
          rw [List.getElem?_map, List.getElem?_eq_getElem (by omega)]
          rfl
        rw [this, List.getElem?_take_of_lt (by omega), List.getElem?_eq_getElem hlt2] at h3
        injection h3 with h3
        rw [h3]
      obtain ⟨k0, hk0⟩ : ∃ k0, k0 = (Lj[q]'(by omega)).k := ⟨_, rfl⟩
      have hql : q < Lj.length := by omega
      rw [← hk0] at hgo hx
      replace hk0 := Lib.hid hk0
      replace hq := Lib.hid hq
      replace hS := Lib.hid hS0
      replace hlen := Lib.hid hlen
      replace hl0 := Lib.hid hl0
      clear hS0
      go_wp2_with fail
      refine hgo.out.mono ?_
      clear hgo
      rintro e w1 ⟨rfl, hM1, hc1⟩
      have ho1 := Lib.hid (hol.out.chg hc1 (fun k hk hf => hol.out.apartL hS.out.lo k hf hk))
      replace hM1 := Lib.hid hM1
      replace hc1 := Lib.hid hc1
      have hsz : w.heap.size ≤ w1.heap.size := Nat.le_trans hS.out.ch.size hc1.out.size
      go_wp2_with ((with_reducible refine gate_builtin (b := .append) (xs := #[.tmp 27, .tmp 30]) rfl ?_); go_must (refine app1 (w0 := w1) rfl (.tmp 27) (.tmp 30) rfl (.slice Av l0.length cv) l0 k0 rfl rfl ho1 (Lib.hid (Below.refl _ _)) hsz (by have := hl0n.out; omega) ?_); intro v8 w8 ho8 hb8 hg8)
      have e8 : lenV v8 = j + 1 := by
        obtain ⟨A8, c8, rfl, -⟩ := own_rd ho8.out
        have := hl0n.out
        simp [lenV, this]
      have hS8 : Hid (Shr w w8 B gm gb n h m g L (Lj.eraseIdx q) (j + 1) v8) := by
        refine ⟨?_, ?_, ?_, fun z hz => hS.out.fm z hz.erase, ?_⟩
        · rw [show g + ((j + 1 : Nat) : Int) = g + j + 1 from by push_cast; omega]
          exact hM1.out.chg (Chg.of_grown hg8.out) (fun z hz he => ho1.out.apartL hM1.out z hz he.symm)
        · rw [kv_last _ hq.out, hS.out.eq, List.dropLast_eq_take, List.take_take, List.length_take]
          congr 1
          have := kv_len L
          omega
        · exact (hS.out.ch.trans hc1.out (fun z hz hf => (hS.out.fm z hf).elim id (fun h1 => absurd h1 (by omega)))).trans (Chg.of_grown hg8.out) (fun z hz he => absurd (own_base ho1.out z he.symm) (by omega))
        · rw [hx.out]
          exact ho8.out
      obtain ⟨L2, hL2⟩ : ∃ L2, L2 = Lj.eraseIdx q := ⟨_, rfl⟩
      rw [← hL2] at hS8
      clear ho1 ho8 hb8 hg8 hM1 hc1 hL2
      go_roundw
      case rel => exact ⟨j + 1, L2, e8, by omega, by have := hlen.out; omega, hS8⟩
      case measure => rw [e8, show lenV (.slice Av l0.length cv) = j from hl0n.out]; have := hlen.out; omega
    · have hd : ¬ ((n : Int) < (Lj.length : Int)) := by omega
      have e1 : kvGone n (kv L) = l0 := by
        rw [hl0]
        by_cases h3 : L.length ≤ n
        · rw [kvGone_all (by rw [kv_len]; exact h3), kvGone_all (by rw [kv_len]; omega)]
        · rw [show L.length - j = n from by omega]
      have e2 : (kv L).take n = (kv L).take (L.length - j) := by
        by_cases h3 : L.length ≤ n
        · rw [List.take_of_length_le (by rw [kv_len]; exact h3), List.take_of_length_le (by rw [kv_len]; omega)]
        · rw [show L.length - j = n from by omega]
      have e3 : j = L.length - n := by omega
      replace hS := Lib.hid hS0
      replace e1 := Lib.hid e1
      replace e2 := Lib.hid e2
      replace e3 := Lib.hid e3
      replace hl0 := Lib.hid hl0
      replace hlen := Lib.hid hlen
      clear hS0
      go_wp2_with fail
      go_ret2
      refine ⟨_, rfl, ?_, Lj, ⟨?_, ?_, hS.out.ch, hS.out.fm⟩⟩
      · rw [e1.out]
        exact hol.out
      · rw [← e3.out]
        exact hS.out.lo.memo (by omega) (by omega) (by omega)
      · rw [e2.out]
        exact hS.out.eq
set_option maxHeartbeats 1000000 in
theorem Uses_I (w : World) (B gm gb : Nat) (most h m g : Int) (L : List (Ent Int)) (hM : Memo ktI w B gm gb most h m g L) :
    Calls Try.prog 16 #[.pointer (some ⟨gm, 0, none⟩)] w fun e w' => e = .returned (.agg #[.int .i64 h, .int .i64 m, .int .i64 g]) ∧ Below w.heap.size w w' := by
  have q4 : w.cell? ⟨gm, 4, none⟩ = some (.int .i64 h) := blk_cell hM.ch.mem 4
  have q5 : w.cell? ⟨gm, 5, none⟩ = some (.int .i64 m) := blk_cell hM.ch.mem 5
  have q6 : w.cell? ⟨gm, 6, none⟩ = some (.int .i64 g) := blk_cell hM.ch.mem 6
  have hlt := blk_lt hM.ch.mem
  have hM2 := Lib.hid (hM.below (below_alloc (Below.refl _ w) (.cells #[.int .i64 0, .int .i64 0, .int .i64 0] 40)))
  clear hM
  go_enter Try.func16, Try.ntmps16
  go_wp2_with (first | (go_at_call 28; go_must (refine (made_I _ B gm gb most h m g L hM2.out).mono ?_); rintro e w' ⟨rfl, rfl⟩))
  refine bodyPost_ret (v := .agg #[.int .i64 h, .int .i64 m, .int .i64 g]) (by simp [results, Try.results16, go_sem]) rfl ⟨rfl, below_alloc (Below.refl _ _) _⟩
end Go.Proofs.Ytecgbhiebaiokaa.G
