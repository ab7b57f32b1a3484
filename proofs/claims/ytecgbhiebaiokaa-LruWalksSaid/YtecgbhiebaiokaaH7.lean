/- The contracts of Get. -/
import Derived.Test.YtecgbhiebaiokaaH6
namespace Go.Proofs.Ytecgbhiebaiokaa.G
open Go.RowKit Go.Proofs.YtecgbhiebaiokaaW.PrintWords Go.Proofs.YtecgbhiebaiokaaW.PrintLast Go.Proofs.YtecgbhiebaiokaaW.PrintMore
set_option linter.unusedSimpArgs false
set_option linter.unusedVariables false
section
variable {α : Type} [DecidableEq α]
theorem look_miss {k : α} {L : List (Ent α)} (h : has k L = false) : lookG k L = none := by
  unfold lookG
  rw [Option.map_eq_none_iff, List.find?_eq_none]
  intro e he
  simpa using not_has_iff.1 h e he
theorem look_hit {k : α} : ∀ {L : List (Ent α)} (h : has k L = true), lookG k L = some (L[at_ k L]'(at_lt h)).g
  | [], h => by simp [has] at h
  | x :: r, h => by
    by_cases hk : x.k = k
    · have e1 : at_ k (x :: r) = 0 := by simp [at_, List.findIdx_cons, hk]
      simp only [e1]
      simp [lookG, hk]
    · have hb : (x.k == k) = false := by simp [hk]
      have e1 : at_ k (x :: r) = at_ k r + 1 := by simp [at_, List.findIdx_cons, hb]
      have h' : has k r = true := by simpa [has, hk] using h
      simp only [e1]
      have := look_hit h'
      simp only [List.getElem_cons_succ]
      rw [← this]
      simp [lookG, hb]
theorem look_cut {k k' : α} (he : k' ≠ k) (L : List (Ent α)) : lookG k' (cutK k L) = lookG k' L := by
  unfold lookG cutK
  rw [List.find?_filter]
  congr 2
  funext e
  by_cases h3 : e.k = k'
  · simp [h3, he]
  · simp [h3]
theorem has_cut {k k' : α} (he : k' ≠ k) (L : List (Ent α)) : has k' (cutK k L) = has k' L := by
  rw [Bool.eq_iff_iff, has_iff, has_iff]
  exact ⟨fun ⟨e, h1, h2⟩ => ⟨e, (mem_cut.1 h1).1, h2⟩, fun ⟨e, h1, h2⟩ => ⟨e, mem_cut.2 ⟨h1, by rw [h2]; exact he⟩, h2⟩⟩
omit [DecidableEq α] in
theorem erase_ne {L : List (Ent α)} (hu : GUniq L) {i : Nat} (hi : i < L.length) : ∀ x ∈ L.eraseIdx i, x.g ≠ L[i].g := by
  intro x hx
  obtain ⟨j, hj, rfl⟩ := List.getElem_of_mem hx
  rw [List.length_eraseIdx, if_pos hi] at hj
  rw [List.getElem_eraseIdx]
  split
  · exact hu.ne _ hi (by omega)
  · exact hu.ne _ hi (by omega)
variable {T : KT α} {w w1 : World} {B gm gb : Nat} {most h m g : Int} {L : List (Ent α)}
theorem Memo.setMiss (hM : Memo T w B gm gb most h m g L) (h1 : m + 1 ≤ 1152921504606846976) (ha : T.tE ≠ T.tM := by decide) : Memo T (w.setCell ⟨gm, 5, none⟩ (.int .i64 (m + 1))) B gm gb most h (m + 1) g L :=
  ⟨⟨set_row hM.ch.mem 5 _ _ rfl, hM.ch.row.far (hM.ch.mem.ne hM.ch.row ha) _, hM.ch.gu⟩, hM.mp.chg ((Chg.refl w (fun q => q = gm)).set_ (p := ⟨gm, 5, none⟩) rfl _) (fun hq => hM.mp.ne hM.ch.mem hq.symm), hM.bm, hM.bb, hM.bg, hM.uq, hM.okk, hM.ln, hM.m1, hM.m2, hM.h0, hM.h1, by have := hM.i0; omega, h1, hM.g0, hM.g1⟩
theorem Memo.setHit (hM : Memo T w B gm gb most h m g L) (h1 : h + 1 ≤ 1152921504606846976) (ha : T.tE ≠ T.tM := by decide) : Memo T (w.setCell ⟨gm, 4, none⟩ (.int .i64 (h + 1))) B gm gb most (h + 1) m g L :=
  ⟨⟨set_row hM.ch.mem 4 _ _ rfl, hM.ch.row.far (hM.ch.mem.ne hM.ch.row ha) _, hM.ch.gu⟩, hM.mp.chg ((Chg.refl w (fun q => q = gm)).set_ (p := ⟨gm, 4, none⟩) rfl _) (fun hq => hM.mp.ne hM.ch.mem hq.symm), hM.bm, hM.bb, hM.bg, hM.uq, hM.okk, hM.ln, hM.m1, hM.m2, by have := hM.h0; omega, h1, hM.i0, hM.i1, hM.g0, hM.g1⟩
/-- an entry has gone to the front -/
theorem Memo.fronted (hM : Memo T w B gm gb most h m g L) {k : α} (hh : has k L = true) (hC : Chain T w1 gm gb most h m g (L[at_ k L]'(at_lt hh) :: L.eraseIdx (at_ k L))) (hmp : MapL T w1 gb L) : Memo T w1 B gm gb most h m g (L[at_ k L]'(at_lt hh) :: L.eraseIdx (at_ k L)) := by
  have hlt := at_lt hh
  have hkk := at_key hh
  have hmem : ∀ x ∈ (L[at_ k L]'(at_lt hh) :: L.eraseIdx (at_ k L)), x ∈ L := fun x hx => by
    rcases List.mem_cons.1 hx with rfl | hx
    · exact List.getElem_mem _
    · exact List.mem_of_mem_eraseIdx hx
  have hlen : (L[at_ k L]'(at_lt hh) :: L.eraseIdx (at_ k L)).length = L.length := by rw [List.length_cons, List.length_eraseIdx, if_pos hlt]; omega
  refine ⟨hC, hmp.same hlen (fun k' => ?_) (fun k' => ?_), hM.bm, hM.bb, fun e he => hM.bg e (hmem e he), ?_, fun e he => hM.okk e (hmem e he), by rw [hlen]; exact hM.ln, hM.m1, hM.m2, hM.h0, hM.h1, hM.i0, hM.i1, hM.g0, hM.g1⟩
  · by_cases he : k' = k
    · subst he
      rw [look_hit hh]
      simp [lookG, hkk]
    · rw [erase_cut hM.uq hh, ← look_cut he L]
      have : (L[at_ k L]'(at_lt hh)).k ≠ k' := by rw [hkk]; exact fun h => he h.symm
      simp [lookG, this]
  · by_cases he : k' = k
    · subst he
      rw [hh]
      simp [has, hkk]
    · rw [erase_cut hM.uq hh, ← has_cut he L]
      have : (L[at_ k L]'(at_lt hh)).k ≠ k' := by rw [hkk]; exact fun h => he h.symm
      simp [has, this]
  · rw [erase_cut hM.uq hh]
    refine List.nodup_cons.2 ⟨fun hm => ?_, hM.uq.cut⟩
    obtain ⟨x, hx, hxk⟩ := List.mem_map.1 hm
    exact (mem_cut.1 hx).2 (hxk.trans hkk)
end
set_option maxHeartbeats 2000000 in
theorem Get_I_miss (w : World) (B gm gb : Nat) (most h m g : Int) (L : List (Ent Int)) (k : Int) (hM : Memo ktI w B gm gb most h m g L) (hk : ktI.ok k) (hh : has k L = false) (hm1 : m + 1 ≤ 1152921504606846976) :
    Calls Try.prog 11 #[.pointer (some ⟨gm, 0, none⟩), .int .i64 k] w fun e w' => e = .returned (.tuple #[.int .i64 0, .bool false]) ∧ Memo ktI w' B gm gb most h (m + 1) g L ∧ Chg w w' (FM gm gb L) := by
  have q1 : w.cell? ⟨gm, 1, none⟩ = some (.map (some gb)) := blk_cell hM.ch.mem 1
  have q5 : w.cell? ⟨gm, 5, none⟩ = some (.int .i64 m) := blk_cell hM.ch.mem 5
  have f5 := blk_frozen hM.ch.mem 5
  have hl : (Instr.lookup 63 (.map (some gb)) (.int .i64 k) false).run Try.prog w = .ok (.pointer none) w := by
    have := hM.mp.lookup klI hk
    rw [look_miss hh] at this
    exact this
  have hi0 := hM.i0
  have hM2 := Lib.hid (hM.setMiss hm1)
  have hc2 := Lib.hid ((Chg.refl w (FM gm gb L)).set_ (p := ⟨gm, 5, none⟩) (.inl rfl) (.int .i64 (m + 1)))
  have HM := Lib.hid hM
  clear hM
  go_enter Try.func11, Try.ntmps11
  go_wp2_with (first | (go_at_call 28; go_must (refine (made_I w B gm gb most h m g L HM.out).mono ?_); rintro e w' ⟨rfl, rfl⟩))
  go_ret2
  exact ⟨rfl, hM2.out, hc2.out⟩
set_option maxHeartbeats 2000000 in
theorem Get_I_hit (w : World) (B gm gb : Nat) (most h m g : Int) (L : List (Ent Int)) (k : Int) (hM : Memo ktI w B gm gb most h m g L) (hk : ktI.ok k) (hh : has k L = true) (hm1 : h + 1 ≤ 1152921504606846976) :
    Calls Try.prog 11 #[.pointer (some ⟨gm, 0, none⟩), .int .i64 k] w fun e w' => e = .returned (.tuple #[.int .i64 (L[at_ k L]'(at_lt hh)).v, .bool true]) ∧ Memo ktI w' B gm gb most (h + 1) m g (L[at_ k L]'(at_lt hh) :: L.eraseIdx (at_ k L)) ∧ Chg w w' (FM gm gb L) := by
  have q1 : w.cell? ⟨gm, 1, none⟩ = some (.map (some gb)) := blk_cell hM.ch.mem 1
  have q4 : w.cell? ⟨gm, 4, none⟩ = some (.int .i64 h) := blk_cell hM.ch.mem 4
  have f4 := blk_frozen hM.ch.mem 4
  obtain ⟨i, hi⟩ : ∃ i, i = at_ k L := ⟨_, rfl⟩
  have hil : i < L.length := by rw [hi]; exact at_lt hh
  have hl : (Instr.lookup 63 (.map (some gb)) (.int .i64 k) false).run Try.prog w = .ok (.pointer (some ⟨L[i].g, 0, none⟩)) w := by
    have := hM.mp.lookup klI hk
    rw [look_hit hh] at this
    simp only [hi]
    exact this
  have hi0 := hM.h0
  have hM2 := hM.setHit hm1
  have hc2 := (Chg.refl w (FM gm gb L)).set_ (p := ⟨gm, 4, none⟩) (.inl rfl) (.int .i64 (h + 1))
  have HM := Lib.hid hM
  simp only [← hi]
  obtain ⟨e0, he0⟩ : ∃ e0, e0 = L[i] := ⟨_, rfl⟩
  rw [← he0] at hl ⊢
  replace hM2 := Lib.hid hM2
  replace hc2 := Lib.hid hc2
  replace hi := Lib.hid hi
  replace he0 := Lib.hid he0
  clear hM
  go_enter Try.func11, Try.ntmps11
  go_wp2_with (first | (go_at_call 28; go_must (refine (made_I w B gm gb most h m g L HM.out).mono ?_); rintro e w' ⟨rfl, rfl⟩))
  obtain ⟨w1, hw1⟩ : ∃ w1, w1 = w.setCell ⟨gm, 4, none⟩ (.int .i64 (h + 1)) := ⟨_, rfl⟩
  rw [← hw1] at hM2 hc2 ⊢
  clear hw1 q1 q4 f4 hl
  have hcut := cut_I w1 gm gb most (h + 1) m g L i hil hM2.out.ch
  rw [← he0.out] at hcut
  refine hcut.mono ?_
  clear hcut
  rintro e w2 ⟨rfl, hch, hbe, hc3⟩
  replace hch := Lib.hid hch
  replace hbe := Lib.hid hbe
  replace hc3 := Lib.hid hc3
  go_wp2_with fail
  refine (front_I w2 gm gb most (h + 1) m g (L.eraseIdx i) e0 hch.out hbe.out (fun x hx => by rw [he0.out]; exact erase_ne hM2.out.ch.gu hil x hx)).mono ?_
  rintro e w3 ⟨rfl, hch4, hc4⟩
  have qv : w3.cell? ⟨e0.g, 1, none⟩ = some (.int .i64 e0.v) := blk_cell (hch4.row 0 (by simp)) 1
  replace hch4 := Lib.hid hch4
  replace hc4 := Lib.hid hc4
  go_wp2_with fail
  go_ret2
  have hcA : Chg w1 w3 (fun q => q = gm ∨ ∃ x ∈ L, x.g = q) := hc3.out.trans hc4.out (fun q _ hq => by
    rcases hq with rfl | rfl | ⟨x, hx, rfl⟩
    · exact .inl rfl
    · exact .inr ⟨e0, by rw [he0.out]; exact List.getElem_mem hil, rfl⟩
    · exact .inr ⟨x, List.mem_of_mem_eraseIdx hx, rfl⟩)
  refine ⟨rfl, ?_, hc2.out.trans hcA (fun q _ hq => by
    rcases hq with rfl | ⟨x, hx, rfl⟩
    · exact .inl rfl
    · exact .inr (.inr ⟨x, hx, rfl⟩))⟩
  have hfr := hM2.out.fronted (k := k) hh (w1 := w3) (by simp only [← hi.out, ← he0.out]; exact hch4.out) (hM2.out.mp.chg hcA (fun hq => by
    rcases hq with h1 | ⟨x, hx, h1⟩
    · exact hM2.out.mp.ne hM2.out.ch.mem h1.symm
    · obtain ⟨j, hj, rfl⟩ := List.getElem_of_mem hx
      exact hM2.out.mp.ne (hM2.out.ch.row j hj) h1))
  simp only [← hi.out, ← he0.out] at hfr
  exact hfr
set_option maxHeartbeats 2000000 in
theorem Get_S_miss (w : World) (B gm gb : Nat) (most h m g : Int) (L : List (Ent ByteArray)) (k : ByteArray) (hM : Memo ktS w B gm gb most h m g L) (hk : ktS.ok k) (hh : has k L = false) (hm1 : m + 1 ≤ 1152921504606846976) :
    Calls Try.prog 26 #[.pointer (some ⟨gm, 0, none⟩), .string k] w fun e w' => e = .returned (.tuple #[.int .i64 0, .bool false]) ∧ Memo ktS w' B gm gb most h (m + 1) g L ∧ Chg w w' (FM gm gb L) := by
  have q1 : w.cell? ⟨gm, 1, none⟩ = some (.map (some gb)) := blk_cell hM.ch.mem 1
  have q5 : w.cell? ⟨gm, 5, none⟩ = some (.int .i64 m) := blk_cell hM.ch.mem 5
  have f5 := blk_frozen hM.ch.mem 5
  have hl : (Instr.lookup 79 (.map (some gb)) (.string k) false).run Try.prog w = .ok (.pointer none) w := by
    have := hM.mp.lookup klS hk
    rw [look_miss hh] at this
    exact this
  have hi0 := hM.i0
  have hM2 := Lib.hid (hM.setMiss hm1)
  have hc2 := Lib.hid ((Chg.refl w (FM gm gb L)).set_ (p := ⟨gm, 5, none⟩) (.inl rfl) (.int .i64 (m + 1)))
  have HM := Lib.hid hM
  clear hM
  go_enter Try.func26, Try.ntmps26
  go_wp2_with (first | (go_at_call 39; go_must (refine (made_S w B gm gb most h m g L HM.out).mono ?_); rintro e w' ⟨rfl, rfl⟩))
  go_ret2
  exact ⟨rfl, hM2.out, hc2.out⟩
set_option maxHeartbeats 2000000 in
theorem Get_S_hit (w : World) (B gm gb : Nat) (most h m g : Int) (L : List (Ent ByteArray)) (k : ByteArray) (hM : Memo ktS w B gm gb most h m g L) (hk : ktS.ok k) (hh : has k L = true) (hm1 : h + 1 ≤ 1152921504606846976) :
    Calls Try.prog 26 #[.pointer (some ⟨gm, 0, none⟩), .string k] w fun e w' => e = .returned (.tuple #[.int .i64 (L[at_ k L]'(at_lt hh)).v, .bool true]) ∧ Memo ktS w' B gm gb most (h + 1) m g (L[at_ k L]'(at_lt hh) :: L.eraseIdx (at_ k L)) ∧ Chg w w' (FM gm gb L) := by
  have q1 : w.cell? ⟨gm, 1, none⟩ = some (.map (some gb)) := blk_cell hM.ch.mem 1
  have q4 : w.cell? ⟨gm, 4, none⟩ = some (.int .i64 h) := blk_cell hM.ch.mem 4
  have f4 := blk_frozen hM.ch.mem 4
  obtain ⟨i, hi⟩ : ∃ i, i = at_ k L := ⟨_, rfl⟩
  have hil : i < L.length := by rw [hi]; exact at_lt hh
  have hl : (Instr.lookup 79 (.map (some gb)) (.string k) false).run Try.prog w = .ok (.pointer (some ⟨L[i].g, 0, none⟩)) w := by
    have := hM.mp.lookup klS hk
    rw [look_hit hh] at this
    simp only [hi]
    exact this
  have hi0 := hM.h0
  have hM2 := hM.setHit hm1
  have hc2 := (Chg.refl w (FM gm gb L)).set_ (p := ⟨gm, 4, none⟩) (.inl rfl) (.int .i64 (h + 1))
  have HM := Lib.hid hM
  simp only [← hi]
  obtain ⟨e0, he0⟩ : ∃ e0, e0 = L[i] := ⟨_, rfl⟩
  rw [← he0] at hl ⊢
  replace hM2 := Lib.hid hM2
  replace hc2 := Lib.hid hc2
  replace hi := Lib.hid hi
  replace he0 := Lib.hid he0
  clear hM
  go_enter Try.func26, Try.ntmps26
  go_wp2_with (first | (go_at_call 39; go_must (refine (made_S w B gm gb most h m g L HM.out).mono ?_); rintro e w' ⟨rfl, rfl⟩))
  obtain ⟨w1, hw1⟩ : ∃ w1, w1 = w.setCell ⟨gm, 4, none⟩ (.int .i64 (h + 1)) := ⟨_, rfl⟩
  rw [← hw1] at hM2 hc2 ⊢
  clear hw1 q1 q4 f4 hl
  have hcut := cut_S w1 gm gb most (h + 1) m g L i hil hM2.out.ch
  rw [← he0.out] at hcut
  refine hcut.mono ?_
  clear hcut
  rintro e w2 ⟨rfl, hch, hbe, hc3⟩
  replace hch := Lib.hid hch
  replace hbe := Lib.hid hbe
  replace hc3 := Lib.hid hc3
  go_wp2_with fail
  refine (front_S w2 gm gb most (h + 1) m g (L.eraseIdx i) e0 hch.out hbe.out (fun x hx => by rw [he0.out]; exact erase_ne hM2.out.ch.gu hil x hx)).mono ?_
  rintro e w3 ⟨rfl, hch4, hc4⟩
  have qv : w3.cell? ⟨e0.g, 1, none⟩ = some (.int .i64 e0.v) := blk_cell (hch4.row 0 (by simp)) 1
  replace hch4 := Lib.hid hch4
  replace hc4 := Lib.hid hc4
  go_wp2_with fail
  go_ret2
  have hcA : Chg w1 w3 (fun q => q = gm ∨ ∃ x ∈ L, x.g = q) := hc3.out.trans hc4.out (fun q _ hq => by
    rcases hq with rfl | rfl | ⟨x, hx, rfl⟩
    · exact .inl rfl
    · exact .inr ⟨e0, by rw [he0.out]; exact List.getElem_mem hil, rfl⟩
    · exact .inr ⟨x, List.mem_of_mem_eraseIdx hx, rfl⟩)
  refine ⟨rfl, ?_, hc2.out.trans hcA (fun q _ hq => by
    rcases hq with rfl | ⟨x, hx, rfl⟩
    · exact .inl rfl
    · exact .inr (.inr ⟨x, hx, rfl⟩))⟩
  have hfr := hM2.out.fronted (k := k) hh (w1 := w3) (by simp only [← hi.out, ← he0.out]; exact hch4.out) (hM2.out.mp.chg hcA (fun hq => by
    rcases hq with h1 | ⟨x, hx, h1⟩
    · exact hM2.out.mp.ne hM2.out.ch.mem h1.symm
    · obtain ⟨j, hj, rfl⟩ := List.getElem_of_mem hx
      exact hM2.out.mp.ne (hM2.out.ch.row j hj) h1))
  simp only [← hi.out, ← he0.out] at hfr
  exact hfr
end Go.Proofs.Ytecgbhiebaiokaa.G
