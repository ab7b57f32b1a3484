/- The contract of alive. -/
import Derived.Test.YtecgbhiebaiokaaH13
namespace Go.Proofs.Ytecgbhiebaiokaa.G
open Go.RowKit Go.Proofs.YtecgbhiebaiokaaW.PrintWords Go.Proofs.YtecgbhiebaiokaaW.PrintLast Go.Proofs.YtecgbhiebaiokaaW.PrintMore
set_option linter.unusedSimpArgs false
set_option linter.unusedVariables false
theorem Get_S_at (w : World) (B gm gb : Nat) (most h m g : Int) (L : List (Ent ByteArray)) (k : ByteArray) (hM : Memo ktS w B gm gb most h m g L) (i : Nat) (hi : i < L.length) (hk : L[i].k = k) (hm1 : h + 1 ≤ 1152921504606846976) :
    Calls Try.prog 26 #[.pointer (some ⟨gm, 0, none⟩), .string k] w fun e w' => e = .returned (.tuple #[.int .i64 L[i].v, .bool true]) ∧ Memo ktS w' B gm gb most (h + 1) m g (L[i] :: L.eraseIdx i) ∧ Chg w w' (FM gm gb L) := by
  have hh : has k L = true := has_iff.2 ⟨L[i], List.getElem_mem hi, hk⟩
  have hat : at_ k L = i := at_of hM.uq hi hk
  have := Get_S_hit w B gm gb most h m g L k hM (by rw [← hk]; exact hM.okk _ (List.getElem_mem hi)) hh hm1
  simp only [hat] at this
  exact this
theorem Chg.old {α : Type} [DecidableEq α] {T : KT α} {w0 w w' : World} {B gm gb : Nat} {most h m g : Int} {L : List (Ent α)} (hM : Memo T w B gm gb most h m g L) (hc : Chg w w' (FM gm gb L)) (hb : Below B w0 w) (hB : B ≤ w.heap.size) : Below B w0 w' :=
  hb.trans (hc.below hB (fun q hq => (hM.fm q hq).1))
set_option maxHeartbeats 4000000 in
theorem alive_ok (w : World) : Calls Try.prog 9 #[] w fun e w' => e = .returned (.bool true) ∧ Below w.heap.size w w' := by
  go_enter Try.func9, Try.ntmps9
  go_wp2_with fail
  refine (New_S 2 w (by decide) (by decide)).mono ?_
  rintro e w1 ⟨gm, gb, rfl, hM1, hb1⟩
  replace hM1 := Lib.hid hM1
  replace hb1 := Lib.hid hb1
  go_wp2_with fail
  refine (Put_S_room w1 w.heap.size gm gb 2 0 0 0 [] ⟨#[97]⟩ 1 hb1.out.size hM1.out (by simp [ktS, maxLen]; decide) rfl (by decide)).mono ?_
  rintro e w2 ⟨rfl, g1, hg1, hM2, hc2⟩
  replace hg1 := Lib.hid hg1
  have hb2 := Lib.hid (Chg.old hM1.out hc2 hb1.out hb1.out.size)
  clear hc2
  replace hM2 := Lib.hid hM2
  go_wp2_with fail
  refine (Put_S_room w2 w.heap.size gm gb 2 0 0 0 _ ⟨#[98]⟩ 2 hb2.out.size hM2.out (by simp [ktS, maxLen]; decide) rfl (by simp)).mono ?_
  rintro e w3 ⟨rfl, g2, hg2, hM3, hc3⟩
  replace hg2 := Lib.hid hg2
  have hb3 := Lib.hid (Chg.old hM2.out hc3 hb2.out hb2.out.size)
  clear hc3
  replace hM3 := Lib.hid hM3
  go_wp2_with fail
  refine (Get_S_at w3 w.heap.size gm gb 2 0 0 0 _ ⟨#[97]⟩ hM3.out 1 (by simp) rfl (by decide)).mono ?_
  rintro e w4 ⟨rfl, hM4, hc4⟩
  have hb4 := Lib.hid (Chg.old hM3.out hc4 hb3.out hb3.out.size)
  clear hc4
  replace hM4 := Lib.hid hM4
  go_wp2_with fail
  refine (Put_S_full w4 w.heap.size gm gb 2 _ _ _ _ ⟨#[99]⟩ 3 hb4.out.size hM4.out (by simp [ktS, maxLen]; decide) rfl 1 rfl rfl (by decide)).mono ?_
  rintro e w5 ⟨rfl, g3, hg3, hM5, hc5⟩
  replace hg3 := Lib.hid hg3
  have hb5 := Lib.hid (Chg.old hM4.out hc5 hb4.out hb4.out.size)
  clear hc5
  replace hM5 := Lib.hid hM5
  go_wp2_with fail
  refine (Get_S_at w5 w.heap.size gm gb 2 _ _ _ _ ⟨#[97]⟩ hM5.out 1 (by simp) rfl (by decide)).mono ?_
  rintro e w6 ⟨rfl, hM6, hc6⟩
  have hb6 := Lib.hid (Chg.old hM5.out hc6 hb5.out hb5.out.size)
  clear hc6
  replace hM6 := Lib.hid hM6
  go_wp2_with (first | (go_at_call 27; go_must (refine (Len_S w6 w.heap.size gm gb 2 _ _ _ _ hM6.out).mono ?_); rintro e w' ⟨rfl, rfl⟩))
  go_ret
  exact ⟨rfl, hb6.out⟩
end Go.Proofs.Ytecgbhiebaiokaa.G
