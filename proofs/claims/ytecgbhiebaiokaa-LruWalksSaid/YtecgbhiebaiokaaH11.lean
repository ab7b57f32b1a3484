/- The contracts of Put of a key that is there. -/
import Derived.Test.YtecgbhiebaiokaaH10
namespace Go.Proofs.Ytecgbhiebaiokaa.G
open Go.RowKit Go.Proofs.YtecgbhiebaiokaaW.PrintWords Go.Proofs.YtecgbhiebaiokaaW.PrintLast Go.Proofs.YtecgbhiebaiokaaW.PrintMore
set_option linter.unusedSimpArgs false
set_option linter.unusedVariables false
set_option maxHeartbeats 2000000 in
theorem Put_I_hit (w : World) (B gm gb : Nat) (most h m g : Int) (L : List (Ent Int)) (k : Int) (v : Int) (hM : Memo ktI w B gm gb most h m g L) (hk : ktI.ok k) (hh : has k L = true) :
    Calls Try.prog 10 #[.pointer (some ⟨gm, 0, none⟩), .int .i64 k, .int .i64 v] w fun e w' => e = .returned (.tuple #[.int .i64 0, .bool false]) ∧ Memo ktI w' B gm gb most h m g (⟨k, v, (L[at_ k L]'(at_lt hh)).g⟩ :: cutK k L) ∧ Chg w w' (FM gm gb L) := by
  have q1 : w.cell? ⟨gm, 1, none⟩ = some (.map (some gb)) := blk_cell hM.ch.mem 1
  obtain ⟨i, hi⟩ : ∃ i, i = at_ k L := ⟨_, rfl⟩
  have hil : i < L.length := by rw [hi]; exact at_lt hh
  obtain ⟨g0, hg0⟩ : ∃ g0, g0 = L[i].g := ⟨_, rfl⟩
  have hl : (Instr.lookup 63 (.map (some gb)) (.int .i64 k) false).run Try.prog w = .ok (.pointer (some ⟨g0, 0, none⟩)) w := by
    have := hM.mp.lookup klI hk
    rw [look_hit hh] at this
    rw [hg0]
    simp only [hi]
    exact this
  have qv := blk_cell (hM.ch.row i hil) 1
  have fv := blk_frozen (hM.ch.row i hil) 1
  simp only [List.getElem?_toArray, List.getElem?_cons_zero, List.getElem?_cons_succ] at qv
  rw [← hg0] at qv fv
  have hM2 := hM.setVal hil v (by decide)
  rw [← hg0] at hM2
  have hc2 := (Chg.refl w (FM gm gb L)).set_ (p := ⟨g0, 1, none⟩) (.inr (.inr ⟨L[i], List.getElem_mem hil, hg0.symm⟩)) (.int .i64 v)
  have hkey : Hid (L[i].k = k) := by have := at_key hh; simp only [← hi] at this; exact this
  have hgoal : Hid ((⟨k, v, (L[at_ k L]'(at_lt hh)).g⟩ :: cutK k L : List (Ent Int)) = ⟨L[i].k, v, L[i].g⟩ :: L.eraseIdx i) := by
    show _ = _
    rw [hkey.out, ← erase_cut hM.uq hh]
    simp only [hi]
  rw [hgoal.out]
  have HM := Lib.hid hM
  replace hM2 := Lib.hid hM2
  replace hc2 := Lib.hid hc2
  replace hi := Lib.hid hi
  replace hg0 := Lib.hid hg0
  clear hM
  go_enter Try.func10, Try.ntmps10
  go_wp2_with (first | (go_at_call 28; go_must (refine (made_I w B gm gb most h m g L HM.out).mono ?_); rintro e w' ⟨rfl, rfl⟩))
  obtain ⟨w1, hw1⟩ : ∃ w1, w1 = w.setCell ⟨g0, 1, none⟩ (.int .i64 v) := ⟨_, rfl⟩
  rw [← hw1] at hM2 hc2 ⊢
  clear hw1 q1 qv fv hl
  have hil2 : i < (setV L i hil v).length := by rw [setV_len]; exact hil
  have hcut := cut_I w1 gm gb most h m g (setV L i hil v) i hil2 hM2.out.ch
  have he : (setV L i hil v)[i] = ⟨L[i].k, v, L[i].g⟩ := by simp [setV]
  rw [he, setV_erase] at hcut
  dsimp only at hcut
  rw [← hg0.out] at hcut
  refine hcut.mono ?_
  clear hcut
  rintro e w2 ⟨rfl, hch, hbe, hc3⟩
  have hfr := front_I w2 gm gb most h m g (L.eraseIdx i) ⟨L[i].k, v, g0⟩ hch hbe (fun x hx => by show x.g ≠ g0; rw [hg0.out]; exact erase_ne HM.out.ch.gu hil x hx)
  dsimp only at hfr
  replace hc3 := Lib.hid hc3
  replace he := Lib.hid he
  clear hch hbe
  go_wp2_with fail
  refine hfr.mono ?_
  clear hfr
  rintro e w3 ⟨rfl, hch4, hc4⟩
  replace hch4 := Lib.hid hch4
  replace hc4 := Lib.hid hc4
  go_wp2_with fail
  go_ret2
  have hcA : Chg w1 w3 (fun q => q = gm ∨ ∃ x ∈ L, x.g = q) := (hc3.out.mono (S1 := fun q => q = gm ∨ ∃ x ∈ L, x.g = q) (fun q _ hq => by
    rcases hq with rfl | ⟨x, hx, rfl⟩
    · exact .inl rfl
    · have : x.g ∈ L.map (·.g) := by rw [← setV_g L i hil v]; exact List.mem_map_of_mem hx
      obtain ⟨y, hy, hye⟩ := List.mem_map.1 this
      exact .inr ⟨y, hy, hye⟩)).trans hc4.out (fun q _ hq => by
    rcases hq with rfl | rfl | ⟨x, hx, rfl⟩
    · exact .inl rfl
    · exact .inr ⟨L[i], List.getElem_mem hil, hg0.out.symm⟩
    · exact .inr ⟨x, List.mem_of_mem_eraseIdx hx, rfl⟩)
  refine ⟨rfl, ?_, hc2.out.trans hcA (fun q _ hq => by
    rcases hq with rfl | ⟨x, hx, rfl⟩
    · exact .inl rfl
    · exact .inr (.inr ⟨x, hx, rfl⟩))⟩
  have hh2 : has k (setV L i hil v) = true := by rw [setV_has]; exact hh
  have hat2 : at_ k (setV L i hil v) = i := by rw [setV_at]; exact hi.out.symm
  have hfr := hM2.out.fronted (k := k) hh2 (w1 := w3) (by simp only [hat2, he.out, setV_erase]; rw [← hg0.out]; exact hch4.out) (hM2.out.mp.chg hcA (fun hq => by
    rcases hq with h1 | ⟨x, hx, h1⟩
    · exact hM2.out.mp.ne hM2.out.ch.mem h1.symm
    · obtain ⟨j, hj, rfl⟩ := List.getElem_of_mem hx
      exact HM.out.mp.ne (HM.out.ch.row j hj) h1))
  simp only [hat2, he.out, setV_erase] at hfr
  exact hfr
set_option maxHeartbeats 2000000 in
theorem Put_S_hit (w : World) (B gm gb : Nat) (most h m g : Int) (L : List (Ent ByteArray)) (k : ByteArray) (v : Int) (hM : Memo ktS w B gm gb most h m g L) (hk : ktS.ok k) (hh : has k L = true) :
    Calls Try.prog 25 #[.pointer (some ⟨gm, 0, none⟩), .string k, .int .i64 v] w fun e w' => e = .returned (.tuple #[.string ⟨#[]⟩, .bool false]) ∧ Memo ktS w' B gm gb most h m g (⟨k, v, (L[at_ k L]'(at_lt hh)).g⟩ :: cutK k L) ∧ Chg w w' (FM gm gb L) := by
  have q1 : w.cell? ⟨gm, 1, none⟩ = some (.map (some gb)) := blk_cell hM.ch.mem 1
  obtain ⟨i, hi⟩ : ∃ i, i = at_ k L := ⟨_, rfl⟩
  have hil : i < L.length := by rw [hi]; exact at_lt hh
  obtain ⟨g0, hg0⟩ : ∃ g0, g0 = L[i].g := ⟨_, rfl⟩
  have hl : (Instr.lookup 79 (.map (some gb)) (.string k) false).run Try.prog w = .ok (.pointer (some ⟨g0, 0, none⟩)) w := by
    have := hM.mp.lookup klS hk
    rw [look_hit hh] at this
    rw [hg0]
    simp only [hi]
    exact this
  have qv := blk_cell (hM.ch.row i hil) 1
  have fv := blk_frozen (hM.ch.row i hil) 1
  simp only [List.getElem?_toArray, List.getElem?_cons_zero, List.getElem?_cons_succ] at qv
  rw [← hg0] at qv fv
  have hM2 := hM.setVal hil v (by decide)
  rw [← hg0] at hM2
  have hc2 := (Chg.refl w (FM gm gb L)).set_ (p := ⟨g0, 1, none⟩) (.inr (.inr ⟨L[i], List.getElem_mem hil, hg0.symm⟩)) (.int .i64 v)
  have hkey : Hid (L[i].k = k) := by have := at_key hh; simp only [← hi] at this; exact this
  have hgoal : Hid ((⟨k, v, (L[at_ k L]'(at_lt hh)).g⟩ :: cutK k L : List (Ent ByteArray)) = ⟨L[i].k, v, L[i].g⟩ :: L.eraseIdx i) := by
    show _ = _
    rw [hkey.out, ← erase_cut hM.uq hh]
    simp only [hi]
  rw [hgoal.out]
  have HM := Lib.hid hM
  replace hM2 := Lib.hid hM2
  replace hc2 := Lib.hid hc2
  replace hi := Lib.hid hi
  replace hg0 := Lib.hid hg0
  clear hM
  go_enter Try.func25, Try.ntmps25
  go_wp2_with (first | (go_at_call 39; go_must (refine (made_S w B gm gb most h m g L HM.out).mono ?_); rintro e w' ⟨rfl, rfl⟩))
  obtain ⟨w1, hw1⟩ : ∃ w1, w1 = w.setCell ⟨g0, 1, none⟩ (.int .i64 v) := ⟨_, rfl⟩
  rw [← hw1] at hM2 hc2 ⊢
  clear hw1 q1 qv fv hl
  have hil2 : i < (setV L i hil v).length := by rw [setV_len]; exact hil
  have hcut := cut_S w1 gm gb most h m g (setV L i hil v) i hil2 hM2.out.ch
  have he : (setV L i hil v)[i] = ⟨L[i].k, v, L[i].g⟩ := by simp [setV]
  rw [he, setV_erase] at hcut
  dsimp only at hcut
  rw [← hg0.out] at hcut
  refine hcut.mono ?_
  clear hcut
  rintro e w2 ⟨rfl, hch, hbe, hc3⟩
  have hfr := front_S w2 gm gb most h m g (L.eraseIdx i) ⟨L[i].k, v, g0⟩ hch hbe (fun x hx => by show x.g ≠ g0; rw [hg0.out]; exact erase_ne HM.out.ch.gu hil x hx)
  dsimp only at hfr
  replace hc3 := Lib.hid hc3
  replace he := Lib.hid he
  clear hch hbe
  go_wp2_with fail
  refine hfr.mono ?_
  clear hfr
  rintro e w3 ⟨rfl, hch4, hc4⟩
  replace hch4 := Lib.hid hch4
  replace hc4 := Lib.hid hc4
  go_wp2_with fail
  go_ret2
  have hcA : Chg w1 w3 (fun q => q = gm ∨ ∃ x ∈ L, x.g = q) := (hc3.out.mono (S1 := fun q => q = gm ∨ ∃ x ∈ L, x.g = q) (fun q _ hq => by
    rcases hq with rfl | ⟨x, hx, rfl⟩
    · exact .inl rfl
    · have : x.g ∈ L.map (·.g) := by rw [← setV_g L i hil v]; exact List.mem_map_of_mem hx
      obtain ⟨y, hy, hye⟩ := List.mem_map.1 this
      exact .inr ⟨y, hy, hye⟩)).trans hc4.out (fun q _ hq => by
    rcases hq with rfl | rfl | ⟨x, hx, rfl⟩
    · exact .inl rfl
    · exact .inr ⟨L[i], List.getElem_mem hil, hg0.out.symm⟩
    · exact .inr ⟨x, List.mem_of_mem_eraseIdx hx, rfl⟩)
  refine ⟨rfl, ?_, hc2.out.trans hcA (fun q _ hq => by
    rcases hq with rfl | ⟨x, hx, rfl⟩
    · exact .inl rfl
    · exact .inr (.inr ⟨x, hx, rfl⟩))⟩
  have hh2 : has k (setV L i hil v) = true := by rw [setV_has]; exact hh
  have hat2 : at_ k (setV L i hil v) = i := by rw [setV_at]; exact hi.out.symm
  have hfr := hM2.out.fronted (k := k) hh2 (w1 := w3) (by simp only [hat2, he.out, setV_erase]; rw [← hg0.out]; exact hch4.out) (hM2.out.mp.chg hcA (fun hq => by
    rcases hq with h1 | ⟨x, hx, h1⟩
    · exact hM2.out.mp.ne hM2.out.ch.mem h1.symm
    · obtain ⟨j, hj, rfl⟩ := List.getElem_of_mem hx
      exact HM.out.mp.ne (HM.out.ch.row j hj) h1))
  simp only [hat2, he.out, setV_erase] at hfr
  exact hfr
end Go.Proofs.Ytecgbhiebaiokaa.G
