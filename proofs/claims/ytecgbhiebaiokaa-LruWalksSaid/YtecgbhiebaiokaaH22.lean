/- The contract of Drop. -/
import Derived.Test.YtecgbhiebaiokaaH21
import Derived.Test.YtecgbhiebaiokaaG3
namespace Go.Proofs.Ytecgbhiebaiokaa.G
open Go.RowKit Go.Proofs.YtecgbhiebaiokaaW.PrintWords Go.Proofs.YtecgbhiebaiokaaW.PrintLast Go.Proofs.YtecgbhiebaiokaaW.PrintMore
set_option linter.unusedSimpArgs false
set_option linter.unusedVariables false
section
variable {w w1 : World} {B gm gb : Nat} {most h m g : Int} {L : List (Ent Int)}
theorem Memo.cutout (hM : Memo ktI w B gm gb most h m g L) {i : Nat} (hi : i < L.length) {k : Int} (hk : L[i].k = k) (hC : Chain ktI w1 gm gb most h m g (L.eraseIdx i)) (hmp : MapL ktI w1 gb (cutK k L)) : Memo ktI w1 B gm gb most h m g (L.eraseIdx i) := by
  have hh : has k L = true := has_iff.2 ⟨L[i], List.getElem_mem hi, hk⟩
  have hat := at_of hM.uq hi hk
  have he : L.eraseIdx i = cutK k L := by rw [← hat]; exact erase_cut hM.uq hh
  have hl : (L.eraseIdx i).length ≤ L.length := by rw [List.length_eraseIdx, if_pos hi]; omega
  have := hM.ln
  exact ⟨hC, by rw [he]; exact hmp, hM.bm, hM.bb, fun e he => hM.bg e (List.mem_of_mem_eraseIdx he), by rw [he]; exact hM.uq.cut, fun e he => hM.okk e (List.mem_of_mem_eraseIdx he), by omega, hM.m1, hM.m2, hM.h0, hM.h1, hM.i0, hM.i1, hM.g0, hM.g1⟩
theorem FM.erase {α : Type} {gm gb : Nat} {L : List (Ent α)} {i q : Nat} (h : FM gm gb (L.eraseIdx i) q) : FM gm gb L q := by
  rcases h with h | h | ⟨x, hx, h⟩
  · exact .inl h
  · exact .inr (.inl h)
  · exact .inr (.inr ⟨x, List.mem_of_mem_eraseIdx hx, h⟩)
theorem Step.refl (hM : Memo ktI w B gm gb most h m g L) : Step w w B gm gb most h m g L L (kv L) := ⟨hM, rfl, Chg.refl _ _, fun _ hq => .inl hq⟩
theorem Step.trans {w2 : World} {most' h2 m2 g2 : Int} {L1 L2 : List (Ent Int)} {M1 M2 : KV} (s : Step w w1 B gm gb most h m g L L1 M1) (t : Step w1 w2 B gm gb most' h2 m2 g2 L1 L2 M2) : Step w w2 B gm gb most' h2 m2 g2 L L2 M2 :=
  ⟨t.me, t.eq, s.ch.trans t.ch (fun q hq hf => (s.fm q hf).elim id (fun h1 => absurd h1 (by omega))), fun q hq => (t.fm q hq).elim (fun h1 => s.fm q h1) (fun h1 => .inr (Nat.le_trans s.ch.size h1))⟩
theorem KeysRd.get {w : World} {A : Option Addr} {l : List Int} (h : KeysRd w A l) {j : Nat} (hj : j < l.length) : ∃ ad, A = some ad ∧ w.cell? (ad.add j) = some (.int .i64 l[j]) := by
  obtain ⟨ad, e, hc⟩ := ReadsInt.at_ h (j : Int) (by omega) (by omega)
  rw [Int.toNat_natCast] at hc
  refine ⟨ad, e, hc.trans ?_⟩
  unfold rd
  rw [Int.toNat_natCast, List.getD_eq_getElem?_getD, List.getElem?_eq_getElem hj]
  rfl
end
set_option maxRecDepth 100000 in
set_option maxHeartbeats 4000000 in
theorem Drop_kv (w : World) (B gm gb : Nat) (most h m g : Int) (L : List (Ent Int)) (A : Option Addr) (c : Nat) (keys : List Int) (hM : Memo ktI w B gm gb most h m g L) (hkk : ∀ x ∈ keys, InI x) (hlen : keys.length ≤ 9223372036854775807) (hkr : ∀ W', Chg w W' (FM gm gb L) → KeysRd W' A keys) :
    Calls Try.prog 14 #[.pointer (some ⟨gm, 0, none⟩), .slice A keys.length c] w fun e w' => e = .returned (.int .i64 ((kv L).length - (kvDrops keys (kv L)).length)) ∧ ∃ L', Step w w' B gm gb most h m g L L' (kvDrops keys (kv L)) := by
  have hS := Lib.hid (Step.refl hM)
  have hl4 : L.length ≤ 4096 := by have := hM.ln; have := hM.m2; omega
  have HM := Lib.hid hM
  have HK := Lib.hid hkr
  have HO := Lib.hid hkk
  clear hM hkr hkk
  go_enter Try.func14, Try.ntmps14
  go_wp2_with (first | (go_at_call 28; go_must (refine (made_I w B gm gb most h m g L HM.out).mono ?_); rintro e w' ⟨rfl, rfl⟩))
  go_loopw [5, 14] (fun n i wr => ∃ (j : Nat) (Lj : List (Ent Int)), i = .int .i64 j ∧ j ≤ keys.length ∧ n = .int .i64 ((L.length : Int) - Lj.length) ∧ Lj.length ≤ L.length ∧ Hid (Step w wr B gm gb most h m g L Lj (kvDrops (keys.take j) (kv L)))) (fun _ i _ => keys.length - (intOf i).toNat)
  case atStart => exact ⟨0, L, rfl, by omega, by simp, Nat.le_refl _, hS⟩
  case round =>
    clear hS
    obtain ⟨j, Lj, rfl, hj, rfl, hll, hS⟩ := hrel
    by_cases hlt : j < keys.length
    · obtain ⟨ad, rfl, hcell⟩ := KeysRd.get (HK.out wr hS.out.ch) hlt
      obtain ⟨k, hk⟩ : ∃ k, k = keys[j] := ⟨_, rfl⟩
      have hkok : ktI.ok k := by rw [hk]; exact (HO.out _ (List.getElem_mem hlt)).ok
      rw [← hk] at hcell
      have htk : Hid (kvDrops (keys.take (j + 1)) (kv L) = kvCut k (kv Lj)) := by
        show _ = _
        rw [kvDrops_take hlt, hS.out.eq, ← hk]
      replace hk := Lib.hid hk
      replace hkok := Lib.hid hkok
      have qm : wr.cell? ⟨gm, 1, none⟩ = some (.map (some gb)) := blk_cell hS.out.me.ch.mem 1
      cases hh : has k Lj with
      | false =>
        have hl : (Instr.lookup 63 (.map (some gb)) (.int .i64 k) false).run Try.prog wr = .ok (.pointer none) wr := by
          have := hS.out.me.mp.lookup klI hkok.out
          rw [look_miss hh] at this
          exact this
        have hS2 : Hid (Step w wr B gm gb most h m g L Lj (kvDrops (keys.take (j + 1)) (kv L))) := by
          rw [htk.out, kvCut_none (by rw [kv_has]; exact hh)]
          exact ⟨hS.out.me, rfl, hS.out.ch, hS.out.fm⟩
        replace hh := Lib.hid hh
        clear hS htk
        go_wp2_with fail
        go_roundw
        case rel => exact ⟨j + 1, Lj, by go_num, by omega, rfl, hll, hS2⟩
        case measure => simp [intOf]; omega
      | true =>
        obtain ⟨i, hi⟩ : ∃ i, i = at_ k Lj := ⟨_, rfl⟩
        have hil : i < Lj.length := by rw [hi]; exact at_lt hh
        have hik : Lj[i].k = k := by simp only [hi]; exact at_key hh
        have hl : (Instr.lookup 63 (.map (some gb)) (.int .i64 k) false).run Try.prog wr = .ok (.pointer (some ⟨Lj[i].g, 0, none⟩)) wr := by
          have := hS.out.me.mp.lookup klI hkok.out
          rw [look_hit hh] at this
          simp only [hi]
          exact this
        obtain ⟨g0, hg0⟩ : ∃ g0, g0 = Lj[i].g := ⟨_, rfl⟩
        rw [← hg0] at hl
        have hcut := cut_I wr gm gb most h m g Lj i hil hS.out.me.ch
        rw [← hg0] at hcut
        replace hcut := Lib.hid hcut
        replace hik := Lib.hid hik
        replace hi := Lib.hid hi
        replace hh := Lib.hid hh
        replace hg0 := Lib.hid hg0
        go_wp2_with fail
        refine hcut.out.mono ?_
        clear hcut
        rintro e w1 ⟨rfl, hch, hbe, hc1⟩
        have q1 : w1.cell? ⟨gm, 1, none⟩ = some (.map (some gb)) := blk_cell hch.mem 1
        have hmp1 : MapL ktI w1 gb Lj := hS.out.me.mp.chg hc1 (fun hf => by
          rcases hf with h1 | ⟨x, hx, h1⟩
          · exact hS.out.me.mp.ne hS.out.me.ch.mem h1.symm
          · obtain ⟨j, hj, rfl⟩ := List.getElem_of_mem hx
            exact hS.out.me.mp.ne (hS.out.me.ch.row j hj) h1)
        obtain ⟨w2, hrun, hmp2, hc2⟩ := hmp1.drop klI (k := k) hkok.out hS.out.me.uq hh.out 0
        have hrun2 : (Builtin.delete_ #[63, 3] 0 #[.map (some gb), .int .i64 k]).run Try.prog w1 = .ok (.tuple #[]) w2 := hrun
        have hch2 := hch.chg hc2 (fun h => hmp1.ne hch.mem h) (fun x hx h => by obtain ⟨j, hj, rfl⟩ := List.getElem_of_mem hx; exact hmp1.ne (hch.row j hj) h)
        have hS2 : Hid (Step w w2 B gm gb most h m g L (Lj.eraseIdx i) (kvDrops (keys.take (j + 1)) (kv L))) := by
          refine hS.out.trans (M2 := kvDrops (keys.take (j + 1)) (kv L)) ⟨hS.out.me.cutout hil hik.out hch2 hmp2, ?_, ?_, fun q hq => .inl hq.erase⟩
          · rw [htk.out, kv_cut, ← erase_cut hS.out.me.uq hh.out, ← hi.out]
          · exact (hc1.mono (fun z _ hz => by
              rcases hz with h1 | h1
              · exact .inl h1
              · exact .inr (.inr h1))).trans hc2 (fun z _ hz => .inr (.inl hz))
        have hle : (Lj.eraseIdx i).length + 1 = Lj.length := by rw [List.length_eraseIdx, if_pos hil]; omega
        obtain ⟨L2, hL2⟩ : ∃ L2, L2 = Lj.eraseIdx i := ⟨_, rfl⟩
        rw [← hL2] at hS2 hle
        clear hch hbe hc1 hmp1 hrun hmp2 hc2 hch2 hS htk hl hL2
        go_wp2_with fail
        go_roundw
        case rel => exact ⟨j + 1, L2, by go_num, by omega, by go_num, by omega, hS2⟩
        case measure => simp [intOf]; omega
    · have hje : j = keys.length := by omega
      have hS2 : Hid (Step w wr B gm gb most h m g L Lj (kvDrops keys (kv L))) := by
        have := hS.out
        rwa [hje, List.take_length] at this
      clear hS hje
      go_wp2_with fail
      go_ret
      refine ⟨?_, _, hS2.out⟩
      have := hS2.out.eq
      rw [← this, kv_len, kv_len]
      rfl
end Go.Proofs.Ytecgbhiebaiokaa.G
