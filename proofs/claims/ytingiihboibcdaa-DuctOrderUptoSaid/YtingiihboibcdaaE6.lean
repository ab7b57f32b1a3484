/- The walk of the law DuctOrder. -/
import Derived.Test.YtingiihboibcdaaE5
namespace Go.Proofs.Ytingiihboibcdaa.D
open Go.RowKit Go.Proofs.YtingiihboibcdaaW.PrintWords Go.Proofs.YtingiihboibcdaaW.PrintLast Go.Proofs.YtingiihboibcdaaW.PrintMore
variable (w : World)
set_option maxRecDepth 100000 in
set_option maxHeartbeats 16000000 in
theorem DuctOrder_calls (room : Int) (A : Option Addr) (c : Nat) (ps : List ActD) (hrm0 : -9223372036854775808 ≤ room) (hrm1 : room ≤ 9223372036854775807) (hr : ActsX w A ps) (hbk : bulkD ps ≤ 1048576) :
    Calls Try.prog 3 #[.int .i64 room, .slice A ps.length c] w fun e w' => e = .returned (.bool true) ∧ Below w.heap.size w w' := by
  have HR := Lib.hid hr
  have hlen := hr.1
  clear hr
  by_cases hbad : room < 1 ∨ 4194304 < room
  · have hA := alive_calls w
    rcases hbad with hbad | hbad
    · go_enter Try.func3, Try.ntmps3
      go_wp2_with fail
      refine (New_bad room _ (.inl hbad)).mono ?_
      rintro e w' ⟨rfl, rfl⟩
      go_wp2_with fail
      refine hA.mono ?_
      rintro e w' ⟨rfl, hb⟩
      replace hb := Lib.hid hb
      go_wp2_with fail
      go_ret
      exact ⟨rfl, hb.out⟩
    · have h1 : ¬ room < 1 := by omega
      go_enter Try.func3, Try.ntmps3
      go_wp2_with fail
      refine (New_bad room _ (.inr hbad)).mono ?_
      rintro e w' ⟨rfl, rfl⟩
      go_wp2_with fail
      refine hA.mono ?_
      rintro e w' ⟨rfl, hb⟩
      replace hb := Lib.hid hb
      go_wp2_with fail
      go_ret
      exact ⟨rfl, hb.out⟩
  · have hr1 : 1 ≤ room := by omega
    have hr2 : room ≤ 4194304 := by omega
    clear hbad
    go_enter Try.func3, Try.ntmps3
    go_wp2_with fail
    refine (New_good room _ hr1 hr2).mono ?_
    rintro e w1 ⟨gd, gb, v, rfl, hD, hb1⟩
    have hM := Lib.hid (show OM w w1 gd gb v (new0 room) (.slice none 0 0) [] (.slice none 0 0) [] from ⟨hb1, hD, own_nil _ _ _ _, own_nil _ _ _ _, fun _ _ h => by simp [Value.ownBlock] at h, fun _ _ h => by simp [Value.ownBlock] at h, fun _ h => by simp [Value.ownBlock] at h⟩)
    have hL := Lib.hid (show OL room (new0 room) [] [] from ⟨rfl, rfl, rfl, rfl, rfl, rfl⟩)
    clear hD hb1
    go_wp2_with fail
    go_loopw [7, 8, 36] (fun vi vo i wr => ∃ (k : Nat) (v : Value) (D : DS) (inn out : List Int), i = .int .i64 k ∧ k ≤ ps.length ∧ Hid (OM w wr gd gb v D vi inn vo out) ∧ Hid (OL room D inn out) ∧ inn.length ≤ bulkD (ps.take k)) (fun _ _ i _ => ps.length - (intOf i).toNat)
    case atStart => exact ⟨0, v, _, [], [], rfl, by omega, hM, hL, by simp⟩
    case round =>
      clear hM hL v
      obtain ⟨k, v, D, inn, out, rfl, hk, hM, hL, hil⟩ := hrel
      by_cases hlt : k < ps.length
      · obtain ⟨ad, rfl, hX⟩ := HR.out.2 k hlt
        have hbs := bulk_take ps k hlt
        obtain ⟨p, hpe⟩ : ∃ p, p = ps[k] := ⟨_, rfl⟩
        rw [← hpe] at hX hbs
        clear hpe
        obtain ⟨A1, c1, q0, q1, q2, q3, hP, hok, hpc, hc1, hby⟩ := hX
        have hbel := hM.out.bel
        replace q0 := pw_cell_below hbel q0
        replace q1 := pw_cell_below hbel q1
        replace q2 := pw_cell_below hbel q2
        replace q3 := pw_cell_below hbel q3
        replace hP := Lib.hid hP
        clear hok hbel
        replace hby := Lib.hid hby
        have hin : inn.length ≤ 1048576 := by have := bulk_take_le ps k; omega
        have hioL : Hid ((inn.length : Int) = out.length + D.held.length) := by rw [hL.out.law, List.length_append]; exact (Int.natCast_add _ _)
        go_wp2_with fail
        · have bA := below_alloc (Below.refl _ wr) (.cells #[.int .i64 p.kind, .slice A1 p.parts.length c1, .int .i64 p.a, .int .i64 p.b] 31)
          have hac : (wr.alloc (.cells #[.int .i64 p.kind, .slice A1 p.parts.length c1, .int .i64 p.a, .int .i64 p.b] 31)).heap[wr.heap.size]? = some (.cells #[.int .i64 p.kind, .slice A1 p.parts.length c1, .int .i64 p.a, .int .i64 p.b] 31) := heap_alloc_new _ _
          have hnf : ¬ FD gd gb v wr.heap.size := fun hf => by have := (hM.out.d.fd _ hf).2; omega
          replace hM := Lib.hid (hM.out.below bA)
          obtain ⟨W0, hW⟩ : ∃ W0, W0 = wr.alloc (.cells #[.int .i64 p.kind, .slice A1 p.parts.length c1, .int .i64 p.a, .int .i64 p.b] 31) := ⟨_, rfl⟩
          rw [← hW] at hM hac ⊢
          clear hW bA q0 q1 q2 q3
          have hhl := hM.out.d.ok.h1
          obtain ⟨n, hn, hnl, hL1⟩ := hL.out.wrote hhl p.parts
          have hwc := Write_any w W0 gd gb v D A1 c1 p.parts hM.out.d hM.out.bel (by rw [hL.out.ci]; omega) hP.out
          rw [hn] at hwc
          refine hwc.mono ?_
          clear hwc hhl
          rintro e w1 ⟨err, rfl, -, v1, hD1, hn1, hc1'⟩
          have q1 := blk_cell (hc1'.blk hac hnf) 1
          simp only [List.getElem?_toArray, List.getElem?_cons_zero, List.getElem?_cons_succ] at q1
          have hM1 := Lib.hid (hM.out.duct hD1 hn1 hc1')
          clear hM hL hD1 hn1 hc1' hac hnf hn
          generalize wroteD D p.parts = D1 at hM1 hL1
          replace hL1 := Lib.hid hL1
          have hfl := Lib.hid (flat_bulk p.parts)
          have hJ := Join_calls A1 c1 p.parts w1 (hP.out.below hM1.out.bel) hpc hby.out hP.out.1 (by have := bulk_take_le ps (k + 1); have := hfl.out; omega)
          go_wp2_with fail
          refine hJ.mono ?_
          clear hJ
          rintro e w2 ⟨AJ, cJ, rfl, hlJ, hrJ, hbJ⟩
          generalize p.parts.flatten = fl at *
          have hM2 := Lib.hid (hM1.out.below hbJ)
          clear hM1
          have hd1 : decide ((n : Int) < 0) = false := by simp
          have hd2 : decide ((fl.length : Int) < (n : Int)) = false := by simp; omega
          obtain ⟨ht1, ht2⟩ := take_run AJ cJ fl n hnl hlJ
          have hrT := ht2 w2 hrJ
          have hfl2 : fl.length ≤ 1048576 := by have := bulk_take_le ps (k + 1); have := hfl.out; omega
          have hnl3 : Hid ((fl.take n).length = n) := by show _ = _; rw [List.length_take]; omega
          generalize fl.take n = tk at *
          obtain ⟨vJ, W, hrunJ, hoJ, hgJ, hnJ⟩ := app_run 28 u7 inn tk AJ cJ hM2.out.i hrT hM2.out.bel.size (by have := hnl3.out; omega)
          have hM := Lib.hid (hM2.out.toI hoJ hgJ hnJ)
          replace hL := hL1
          clear hL1 hM2 hoJ hgJ hnJ hrT hrJ hbJ ht2
          have hil2 : (inn ++ tk).length ≤ bulkD (ps.take (k + 1)) := by rw [List.length_append]; have := hnl3.out; have := hfl.out; omega
          clear hnl3 hfl
          generalize hinn : inn ++ tk = inn1 at hM hL hil2
          clear hinn
          go_wp2_with (at_builtin; refine list_run (by rfl) _ _ rfl rfl rfl hrunJ ?_)
          clear hrunJ ht1 hd1 hd2
          have hok := hM.out.d.ok
          have e1 := hok.h1
          rw [hL.out.rm] at e1
          have e2 : (inn1.length : Int) = out.length + D1.held.length := by rw [hL.out.law, List.length_append]; omega
          have e3 : ((D1.held.length : Int) != (inn1.length : Int) - out.length) = false := by rw [bne_eq_false_iff_eq]; omega
          have e4 : decide (room < (D1.held.length : Int)) = false := by simp; omega
          have e5 : inn1.length ≤ 1048576 := by have := bulk_take_le ps (k + 1); omega
          have e6 : out.length ≤ 1048576 := by omega
          have e7 : D1.held.take (firstN D1 (inn1.length : Int)) = D1.held := by
            have : firstN D1 (inn1.length : Int) = D1.held.length := by unfold firstN mn mx; split <;> split <;> omega
            rw [this, List.take_length]
          have e8 := hL.out.law
          replace e2 := Lib.hid e2
          replace e7 := Lib.hid e7
          replace e8 := Lib.hid e8
          clear hok
          obtain ⟨Ai, ci, rfl, hri⟩ := own_rd hM.out.i
          obtain ⟨Ao, co, rfl, hro⟩ := own_rd hM.out.o
          replace hri := Lib.hid hri
          replace hro := Lib.hid hro
          go_wp2_with fail
          refine (Len_calls _ _ _ _ _ _ hM.out.d).mono ?_
          rintro e w' ⟨rfl, rfl⟩
          go_wp2_with fail
          refine (Len_calls _ _ _ _ _ _ hM.out.d).mono ?_
          rintro e w' ⟨rfl, rfl⟩
          obtain ⟨v3, w3, hrun3, ho3, hg3, -⟩ := app_run 28 (.slice none 0 0) [] out Ao co (own_nil W W.heap.size 5 1) hro.out (Nat.le_refl _) (by simp; omega)
          rw [List.nil_append] at ho3
          have b3 := below_of_none hg3
          have hD3 := Lib.hid (hM.out.d.below b3)
          have hs3 := hg3.size
          go_wp2_with (at_builtin; refine list_run (by rfl) _ _ rfl rfl rfl hrun3 ?_)
          clear hrun3 hg3
          refine (Peek_calls _ _ _ _ _ _ _ hD3.out).mono ?_
          rintro e w4 ⟨v4, rfl, ho4, hb4⟩
          rw [e7.out] at ho4
          obtain ⟨Ap, cp, rfl, hr4⟩ := own_rd ho4
          have hs4 := hb4.size
          obtain ⟨v5, w5, hrun5, ho5, hg5, -⟩ := app_run 28 v3 out D1.held Ap cp (ho3.below hb4) hr4 (by omega) (by have := e2.out; omega)
          rw [← e8.out] at ho5
          have b5 : Below W.heap.size W w5 := (below_step b3 hb4).trans ((Chg.of_grown hg5).below (by omega) (fun q hq => own_base ho3 q hq.symm))
          obtain ⟨A5, c5, rfl, hr5⟩ := own_rd ho5
          replace hr5 := Lib.hid hr5
          have hri5 := Lib.hid (hri.out.below b5)
          have hM5 := Lib.hid (hM.out.below b5)
          clear hM hri hro hD3 ho3 ho4 ho5 hb4 hr4 hg5 b3 b5
          go_wp2_with (at_builtin; refine list_run (by rfl) _ _ rfl rfl rfl hrun5 ?_)
          clear hrun5
          refine (Equal_same w5 _ _ _ _ _ hri5.out hr5.out).mono ?_
          rintro e w' ⟨rfl, rfl⟩
          go_wp2_with fail
          go_roundw
          case rel => exact ⟨k + 1, v1, D1, inn1, out, by go_num, by omega, hM5, hL, hil2⟩
          case measure => simp [intOf]; omega
        · have bA := below_alloc (Below.refl _ wr) (.cells #[.int .i64 p.kind, .slice A1 p.parts.length c1, .int .i64 p.a, .int .i64 p.b] 31)
          replace hM := Lib.hid (hM.out.below bA)
          obtain ⟨W0, hW⟩ : ∃ W0, W0 = wr.alloc (.cells #[.int .i64 p.kind, .slice A1 p.parts.length c1, .int .i64 p.a, .int .i64 p.b] 31) := ⟨_, rfl⟩
          rw [← hW] at hM ⊢
          clear hW bA q0 q1 q2 q3 hP
          refine (Read_calls w.heap.size gd gb v D W0 p.a hM.out.d (by rw [hL.out.co]; have := hioL.out; omega)).mono ?_
          rintro e w1 ⟨vr, rfl, hor, v1, hD1, hn1, hc1'⟩
          have hM1 := Lib.hid (hM.out.duct hD1 hn1 hc1')
          have hL1 := Lib.hid (hL.out.read p.a)
          have hln : (D.held.take (firstN D p.a)).length ≤ D.held.length := by rw [List.length_take]; omega
          obtain ⟨Ar, cr, rfl, hrr⟩ := own_rd hor
          generalize readD D p.a = D1 at hM1 hL1
          generalize D.held.take (firstN D p.a) = got at *
          clear hM hL hD1 hn1 hc1'
          obtain ⟨vJ, W, hrunJ, hoJ, hgJ, hnJ⟩ := app_run 28 u8 out got Ar cr hM1.out.o hrr hM1.out.bel.size (by have := hioL.out; omega)
          have hM := Lib.hid (hM1.out.toO hoJ hgJ hnJ)
          replace hL := hL1
          clear hL1 hM1 hoJ hgJ hnJ hrr hor hln
          have hil2 : inn.length ≤ bulkD (ps.take (k + 1)) := by omega
          generalize hout : out ++ got = out1 at hM hL
          clear hout hioL
          go_wp2_with (at_builtin; refine list_run (by rfl) _ _ rfl rfl rfl hrunJ ?_)
          clear hrunJ
          have hok := hM.out.d.ok
          have e1 := hok.h1
          rw [hL.out.rm] at e1
          have e2 : (inn.length : Int) = out1.length + D1.held.length := by rw [hL.out.law, List.length_append]; omega
          have e3 : ((D1.held.length : Int) != (inn.length : Int) - out1.length) = false := by rw [bne_eq_false_iff_eq]; omega
          have e4 : decide (room < (D1.held.length : Int)) = false := by simp; omega
          have e5 : inn.length ≤ 1048576 := by have := bulk_take_le ps (k + 1); omega
          have e6 : out1.length ≤ 1048576 := by omega
          have e7 : D1.held.take (firstN D1 (inn.length : Int)) = D1.held := by
            have : firstN D1 (inn.length : Int) = D1.held.length := by unfold firstN mn mx; split <;> split <;> omega
            rw [this, List.take_length]
          have e8 := hL.out.law
          replace e2 := Lib.hid e2
          replace e7 := Lib.hid e7
          replace e8 := Lib.hid e8
          clear hok
          obtain ⟨Ai, ci, rfl, hri⟩ := own_rd hM.out.i
          obtain ⟨Ao, co, rfl, hro⟩ := own_rd hM.out.o
          replace hri := Lib.hid hri
          replace hro := Lib.hid hro
          go_wp2_with fail
          refine (Len_calls _ _ _ _ _ _ hM.out.d).mono ?_
          rintro e w' ⟨rfl, rfl⟩
          go_wp2_with fail
          refine (Len_calls _ _ _ _ _ _ hM.out.d).mono ?_
          rintro e w' ⟨rfl, rfl⟩
          obtain ⟨v3, w3, hrun3, ho3, hg3, -⟩ := app_run 28 (.slice none 0 0) [] out1 Ao co (own_nil W W.heap.size 5 1) hro.out (Nat.le_refl _) (by simp; omega)
          rw [List.nil_append] at ho3
          have b3 := below_of_none hg3
          have hD3 := Lib.hid (hM.out.d.below b3)
          have hs3 := hg3.size
          go_wp2_with (at_builtin; refine list_run (by rfl) _ _ rfl rfl rfl hrun3 ?_)
          clear hrun3 hg3
          refine (Peek_calls _ _ _ _ _ _ _ hD3.out).mono ?_
          rintro e w4 ⟨v4, rfl, ho4, hb4⟩
          rw [e7.out] at ho4
          obtain ⟨Ap, cp, rfl, hr4⟩ := own_rd ho4
          have hs4 := hb4.size
          obtain ⟨v5, w5, hrun5, ho5, hg5, -⟩ := app_run 28 v3 out1 D1.held Ap cp (ho3.below hb4) hr4 (by omega) (by have := e2.out; omega)
          rw [← e8.out] at ho5
          have b5 : Below W.heap.size W w5 := (below_step b3 hb4).trans ((Chg.of_grown hg5).below (by omega) (fun q hq => own_base ho3 q hq.symm))
          obtain ⟨A5, c5, rfl, hr5⟩ := own_rd ho5
          replace hr5 := Lib.hid hr5
          have hri5 := Lib.hid (hri.out.below b5)
          have hM5 := Lib.hid (hM.out.below b5)
          clear hM hri hro hD3 ho3 ho4 ho5 hb4 hr4 hg5 b3 b5
          go_wp2_with (at_builtin; refine list_run (by rfl) _ _ rfl rfl rfl hrun5 ?_)
          clear hrun5
          refine (Equal_same w5 _ _ _ _ _ hri5.out hr5.out).mono ?_
          rintro e w' ⟨rfl, rfl⟩
          go_wp2_with fail
          go_roundw
          case rel => exact ⟨k + 1, v1, D1, inn, out1, by go_num, by omega, hM5, hL, hil2⟩
          case measure => simp [intOf]; omega
        · have bA := below_alloc (Below.refl _ wr) (.cells #[.int .i64 p.kind, .slice A1 p.parts.length c1, .int .i64 p.a, .int .i64 p.b] 31)
          replace hM := Lib.hid (hM.out.below bA)
          obtain ⟨W0, hW⟩ : ∃ W0, W0 = wr.alloc (.cells #[.int .i64 p.kind, .slice A1 p.parts.length c1, .int .i64 p.a, .int .i64 p.b] 31) := ⟨_, rfl⟩
          rw [← hW] at hM ⊢
          clear hW bA q0 q1 q2 q3 hP
          refine (Shut_any w W0 gd gb v D hM.out.d).mono ?_
          rintro e W ⟨err, rfl, -, hD1, hc1'⟩
          replace hM := Lib.hid (hM.out.duct hD1 (Nx.refl _ _) hc1')
          replace hL := Lib.hid hL.out.shut
          clear hD1 hc1' hioL
          generalize ({ D with shut := true } : DS) = D1 at hM hL
          have hil2 : inn.length ≤ bulkD (ps.take (k + 1)) := by omega
          have hok := hM.out.d.ok
          have e1 := hok.h1
          rw [hL.out.rm] at e1
          have e2 : (inn.length : Int) = out.length + D1.held.length := by rw [hL.out.law, List.length_append]; omega
          have e3 : ((D1.held.length : Int) != (inn.length : Int) - out.length) = false := by rw [bne_eq_false_iff_eq]; omega
          have e4 : decide (room < (D1.held.length : Int)) = false := by simp; omega
          have e5 : inn.length ≤ 1048576 := by have := bulk_take_le ps (k + 1); omega
          have e6 : out.length ≤ 1048576 := by omega
          have e7 : D1.held.take (firstN D1 (inn.length : Int)) = D1.held := by
            have : firstN D1 (inn.length : Int) = D1.held.length := by unfold firstN mn mx; split <;> split <;> omega
            rw [this, List.take_length]
          have e8 := hL.out.law
          replace e2 := Lib.hid e2
          replace e7 := Lib.hid e7
          replace e8 := Lib.hid e8
          clear hok
          obtain ⟨Ai, ci, rfl, hri⟩ := own_rd hM.out.i
          obtain ⟨Ao, co, rfl, hro⟩ := own_rd hM.out.o
          replace hri := Lib.hid hri
          replace hro := Lib.hid hro
          go_wp2_with fail
          refine (Len_calls _ _ _ _ _ _ hM.out.d).mono ?_
          rintro e w' ⟨rfl, rfl⟩
          go_wp2_with fail
          refine (Len_calls _ _ _ _ _ _ hM.out.d).mono ?_
          rintro e w' ⟨rfl, rfl⟩
          obtain ⟨v3, w3, hrun3, ho3, hg3, -⟩ := app_run 28 (.slice none 0 0) [] out Ao co (own_nil W W.heap.size 5 1) hro.out (Nat.le_refl _) (by simp; omega)
          rw [List.nil_append] at ho3
          have b3 := below_of_none hg3
          have hD3 := Lib.hid (hM.out.d.below b3)
          have hs3 := hg3.size
          go_wp2_with (at_builtin; refine list_run (by rfl) _ _ rfl rfl rfl hrun3 ?_)
          clear hrun3 hg3
          refine (Peek_calls _ _ _ _ _ _ _ hD3.out).mono ?_
          rintro e w4 ⟨v4, rfl, ho4, hb4⟩
          rw [e7.out] at ho4
          obtain ⟨Ap, cp, rfl, hr4⟩ := own_rd ho4
          have hs4 := hb4.size
          obtain ⟨v5, w5, hrun5, ho5, hg5, -⟩ := app_run 28 v3 out D1.held Ap cp (ho3.below hb4) hr4 (by omega) (by have := e2.out; omega)
          rw [← e8.out] at ho5
          have b5 : Below W.heap.size W w5 := (below_step b3 hb4).trans ((Chg.of_grown hg5).below (by omega) (fun q hq => own_base ho3 q hq.symm))
          obtain ⟨A5, c5, rfl, hr5⟩ := own_rd ho5
          replace hr5 := Lib.hid hr5
          have hri5 := Lib.hid (hri.out.below b5)
          have hM5 := Lib.hid (hM.out.below b5)
          clear hM hri hro hD3 ho3 ho4 ho5 hb4 hr4 hg5 b3 b5
          go_wp2_with (at_builtin; refine list_run (by rfl) _ _ rfl rfl rfl hrun5 ?_)
          clear hrun5
          refine (Equal_same w5 _ _ _ _ _ hri5.out hr5.out).mono ?_
          rintro e w' ⟨rfl, rfl⟩
          go_wp2_with fail
          go_roundw
          case rel => exact ⟨k + 1, v, D1, inn, out, by go_num, by omega, hM5, hL, hil2⟩
          case measure => simp [intOf]; omega
        · have bA := below_alloc (Below.refl _ wr) (.cells #[.int .i64 p.kind, .slice A1 p.parts.length c1, .int .i64 p.a, .int .i64 p.b] 31)
          replace hM := Lib.hid (hM.out.below bA)
          obtain ⟨W, hW⟩ : ∃ W, W = wr.alloc (.cells #[.int .i64 p.kind, .slice A1 p.parts.length c1, .int .i64 p.a, .int .i64 p.b] 31) := ⟨_, rfl⟩
          rw [← hW] at hM ⊢
          clear hW bA q0 q1 q2 q3 hP hioL
          have hil2 : inn.length ≤ bulkD (ps.take (k + 1)) := by omega
          have hok := hM.out.d.ok
          have e1 := hok.h1
          rw [hL.out.rm] at e1
          have e2 : (inn.length : Int) = out.length + D.held.length := by rw [hL.out.law, List.length_append]; omega
          have e3 : ((D.held.length : Int) != (inn.length : Int) - out.length) = false := by rw [bne_eq_false_iff_eq]; omega
          have e4 : decide (room < (D.held.length : Int)) = false := by simp; omega
          have e5 : inn.length ≤ 1048576 := by have := bulk_take_le ps (k + 1); omega
          have e6 : out.length ≤ 1048576 := by omega
          have e7 : D.held.take (firstN D (inn.length : Int)) = D.held := by
            have : firstN D (inn.length : Int) = D.held.length := by unfold firstN mn mx; split <;> split <;> omega
            rw [this, List.take_length]
          have e8 := hL.out.law
          replace e2 := Lib.hid e2
          replace e7 := Lib.hid e7
          replace e8 := Lib.hid e8
          clear hok
          obtain ⟨Ai, ci, rfl, hri⟩ := own_rd hM.out.i
          obtain ⟨Ao, co, rfl, hro⟩ := own_rd hM.out.o
          replace hri := Lib.hid hri
          replace hro := Lib.hid hro
          go_wp2_with fail
          refine (Len_calls _ _ _ _ _ _ hM.out.d).mono ?_
          rintro e w' ⟨rfl, rfl⟩
          go_wp2_with fail
          refine (Len_calls _ _ _ _ _ _ hM.out.d).mono ?_
          rintro e w' ⟨rfl, rfl⟩
          obtain ⟨v3, w3, hrun3, ho3, hg3, -⟩ := app_run 28 (.slice none 0 0) [] out Ao co (own_nil W W.heap.size 5 1) hro.out (Nat.le_refl _) (by simp; omega)
          rw [List.nil_append] at ho3
          have b3 := below_of_none hg3
          have hD3 := Lib.hid (hM.out.d.below b3)
          have hs3 := hg3.size
          go_wp2_with (at_builtin; refine list_run (by rfl) _ _ rfl rfl rfl hrun3 ?_)
          clear hrun3 hg3
          refine (Peek_calls _ _ _ _ _ _ _ hD3.out).mono ?_
          rintro e w4 ⟨v4, rfl, ho4, hb4⟩
          rw [e7.out] at ho4
          obtain ⟨Ap, cp, rfl, hr4⟩ := own_rd ho4
          have hs4 := hb4.size
          obtain ⟨v5, w5, hrun5, ho5, hg5, -⟩ := app_run 28 v3 out D.held Ap cp (ho3.below hb4) hr4 (by omega) (by have := e2.out; omega)
          rw [← e8.out] at ho5
          have b5 : Below W.heap.size W w5 := (below_step b3 hb4).trans ((Chg.of_grown hg5).below (by omega) (fun q hq => own_base ho3 q hq.symm))
          obtain ⟨A5, c5, rfl, hr5⟩ := own_rd ho5
          replace hr5 := Lib.hid hr5
          have hri5 := Lib.hid (hri.out.below b5)
          have hM5 := Lib.hid (hM.out.below b5)
          clear hM hri hro hD3 ho3 ho4 ho5 hb4 hr4 hg5 b3 b5
          go_wp2_with (at_builtin; refine list_run (by rfl) _ _ rfl rfl rfl hrun5 ?_)
          clear hrun5
          refine (Equal_same w5 _ _ _ _ _ hri5.out hr5.out).mono ?_
          rintro e w' ⟨rfl, rfl⟩
          go_wp2_with fail
          go_roundw
          case rel => exact ⟨k + 1, v, D, inn, out, by go_num, by omega, hM5, hL, hil2⟩
          case measure => simp [intOf]; omega
      · obtain rfl : k = ps.length := by omega
        have hC := Count_calls _ _ _ _ _ _ hM.out.d
        rw [hL.out.ci, hL.out.co, hL.out.ct, hL.out.cl] at hC
        obtain ⟨Ai, ci, rfl, hri⟩ := own_rd hM.out.i
        obtain ⟨Ao, co, rfl, hro⟩ := own_rd hM.out.o
        have hbl := Lib.hid hM.out.bel
        clear hM hL hri hro
        go_wp2_with fail
        refine hC.mono ?_
        clear hC
        rintro e w2 ⟨rfl, hb2⟩
        replace hbl := Lib.hid (below_step hbl.out hb2)
        clear hb2
        go_wp2_with fail
        refine (alive_calls _).mono ?_
        rintro e w3 ⟨rfl, hb3⟩
        replace hbl := Lib.hid (below_step hbl.out hb3)
        clear hb3
        go_wp2_with fail
        go_ret
        exact ⟨rfl, hbl.out⟩
end Go.Proofs.Ytingiihboibcdaa.D
