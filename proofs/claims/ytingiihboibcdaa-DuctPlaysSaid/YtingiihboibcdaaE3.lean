/- The contract of bytes.Join with no separator. -/
import Derived.Test.YtingiihboibcdaaD7
import Derived.Shelf.Bytes.SlJoin
import Derived.Deep.LoopGhost
namespace Go.Proofs.Ytingiihboibcdaa.D
open Go.RowKit Go.Lib Go.Shelf Go.Proofs.YtingiihboibcdaaW.PrintWords Go.Proofs.YtingiihboibcdaaW.PrintLast Go.Proofs.YtingiihboibcdaaW.PrintMore

theorem add_one_add (a : Addr) (j : Nat) : a.add (1 + j) = ⟨a.block, a.off + 1 + j, none⟩ := by
  unfold Addr.add
  rw [if_neg (by omega)]
  simp
set_option maxHeartbeats 4000000 in
set_option maxRecDepth 100000 in
theorem Join_many (ad : Addr) (n c : Nat) (vs : List Value) (ls : List (List UInt8)) (w : World) (hn : ls.length = n) (h2 : 2 ≤ n) (hP : Lib.PartsAt w ad vs ls) (hcap : n ≤ c)
    (hn47 : n ≤ 9223372036854775807) (hlen : Lib.lens ls ≤ 140737488355328) :
    Calls Try.prog 9 #[.slice (some ad) n c, .slice none 0 0] w fun e w' => ∃ v', e = .returned v' ∧ Lib.FreshBytes w.heap.size w' v' (Lib.join ls []) ∧ Below w.heap.size w w' := by
  have PA : Aside (Lib.PartsAt w ad vs ls) := hP
  clear hP
  have f0 : ((n : Int) == 0) = false := beq_eq_false_iff_ne.2 (by omega)
  have f1 : ((n : Int) == 1) = false := beq_eq_false_iff_ne.2 (by omega)
  go_enter Try.func9, Try.ntmps9
  go_wp2_with fail
  go_loopg [5, 44] n (fun g s5 s44 wr => w = wr ∧ ∃ i : Nat, i ≤ n ∧ g = n - i ∧ s44 = .int .i64 i ∧ s5 = .int .i64 ((Lib.lens (ls.take i) : Nat) : Int))
  case atStart => exact ⟨rfl, 0, Nat.zero_le _, rfl, rfl, rfl⟩
  case round =>
    obtain ⟨rfl, i, hi, rfl, rfl, rfl⟩ := hrel
    by_cases hlt : i < n
    · obtain ⟨p, cap, l, hl, hcell, _, _⟩ := PA.out.get i (by omega)
      have hs1 := Lib.lens_take_succ ls i l hl
      have hs2 := Lib.lens_take_le ls (i + 1)
      generalize Lib.lens (ls.take i) = acc at hs1 ⊢
      have hb : ¬ (9223372036854775807 - (acc : Int) < (l.length : Int)) := by omega
      go_wp2_with fail
      go_roundg (n - (i + 1))
      case measure => omega
      case rel => exact ⟨rfl, i + 1, by omega, rfl, by go_num, by rw [hs1]; first | rfl | (congr 1; push_cast; omega)⟩
    · obtain rfl : n = i := by omega
      have hall : ls.take n = ls := by rw [← hn, List.take_length]
      rw [hall]
      obtain ⟨T, hT⟩ : ∃ T, Lib.lens ls = T := ⟨_, rfl⟩
      rw [hT]
      obtain ⟨cs, hrunM, hle, _⟩ := Lib.run_makeNoZero (P := Try.prog) w #[3] 28 5 Try.underlying28 T (by omega)
      have hcall : (callFunc 26 #[.int .i64 (T : Int)]).run Try.prog w = .ok (.value (.slice (some ⟨w.heap.size, 0, none⟩) T cs.size)) ((w.alloc (.cells cs 5)).drewN 2) := by
        rw [run_callFunc_extern Try.func26 (by kernel_rfl) (by kernel_rfl) (by kernel_rfl) (e := Extern.BytealgMakeNoZero.makeNoZero #[3] #[28]) (by kernel_rfl), hrunM]
        rfl
      clear hrunM
      have i0 : (0 : Int) ≤ (T : Int) := by omega
      have i1 : (T : Int) ≤ (cs.size : Int) := by omega
      have B0 := Lib.Buf.start w cs 5 T 2 hle
      obtain ⟨p0, cap0, l0, hl0, hcell0, hnil0, hcells0⟩ := PA.out.get 0 (by omega)
      have hc0 : ((w.alloc (.cells cs 5)).drewN 2).cell? ad = some (.slice p0 l0.length cap0) := Lib.Below.cellOf B0.below (by simpa [Addr.add] using hcell0) (Nat.le_refl _)
      have hl0le : l0.length ≤ Lib.lens ls := by
        have h1 := Lib.lens_take_succ ls 0 l0 hl0
        have h2 := Lib.lens_take_le ls (0 + 1)
        omega
      obtain ⟨w1, hr1, B1⟩ := Lib.copy_part (P := Try.prog) w _ w.heap.size T [] l0 (.slice p0 l0.length cap0) 28 3 5 Try.underlying28 size5 (Nat.le_refl _) B0 ⟨p0, cap0, rfl, hnil0, hcells0⟩ (by simp; omega)
      rw [List.length_nil, Lib.tailV_zero] at hr1
      rw [List.nil_append] at B1
      go_wp2_with (at_builtin; refine Lib.wpList_copy_run _ rfl _ _ 28 28 rfl _ _ rfl rfl hr1 ?_)
      have hT0 : l0.length + Lib.rest ls 0 0 = T := by
        have := Lib.rest_start ls 0 l0 hl0
        rw [Nat.zero_mul, hT] at this
        omega
      have HB1 : Aside (Lib.Buf w w1 w.heap.size T l0) := B1
      clear B1 B0 hr1 hcall hc0 hcell0 hnil0 hcells0
      go_loopg [9, 72] (n - 1) (fun g2 s9 s72 wr => ∃ (j : Nat) (acc : List UInt8), j ≤ n - 1 ∧ n - 1 - j ≤ g2 ∧ s72 = .int .i64 j ∧ s9 = .int .i64 acc.length ∧ Aside (Lib.Buf w wr w.heap.size T acc) ∧ Hid (acc = l0 ++ Lib.joinTail [] ((ls.drop 1).take j)) ∧ Hid (acc.length + Lib.rest ls 0 j = T))
      case atStart => exact ⟨0, l0, Nat.zero_le _, by omega, rfl, rfl, HB1, (show Hid _ from by show l0 = _; simp [Lib.joinTail]), hT0⟩
      case round =>
        obtain ⟨j, acc, hj, hg2, rfl, rfl, HB, HA, HR⟩ := hrel
        by_cases hjn : j < n - 1
        · have hjz : (j : Int) < ((n - 1 : Nat) : Int) := by omega
          obtain ⟨p, cap, l, hl, hcell, hnil, hcells⟩ := PA.out.get (1 + j) (by omega)
          have hstep := Lib.rest_step ls 0 j l hl
          have hRj := HR.out
          have hcw : wr.cell? ⟨ad.block, ad.off + 1 + j, none⟩ = some (.slice p l.length cap) := by
            have := Lib.Below.cellOf HB.out.below hcell (Nat.le_refl _)
            rwa [add_one_add] at this
          have hsl1 : ∀ W, (Instr.slice 28 (.slice (some ⟨w.heap.size, 0, none⟩) T T) (some (.int .i64 (acc.length : Int))) none none).run Try.prog W = .ok (Lib.tailV w.heap.size T acc.length) W := fun W => Lib.run_slice_tailV W 28 5 Try.underlying28 (by intro w; rfl) _ T acc.length (by omega)
          obtain ⟨w2, hr2, B2⟩ := Lib.copy_part (P := Try.prog) w wr w.heap.size T acc [] (.slice none 0 0) 28 3 5 Try.underlying28 size5 (Nat.le_refl _) HB.out ⟨none, 0, rfl, fun _ => rfl, fun _ h => by cases h⟩ (by simp; omega)
          rw [List.append_nil] at B2
          obtain ⟨w3, hr3, B3⟩ := Lib.copy_part (P := Try.prog) w w2 w.heap.size T acc l (.slice p l.length cap) 28 3 5 Try.underlying28 size5 (Nat.le_refl _) B2 ⟨p, cap, rfl, hnil, hcells⟩ (by omega)
          rw [List.length_nil] at hr2
          have HB3 : Aside (Lib.Buf w w3 w.heap.size T (acc ++ l)) := B3
          clear B2 B3 hcell hnil hcells
          go_wp2_with (at_builtin; first | refine Lib.wpList_copy_run _ rfl _ _ 28 28 rfl _ _ rfl rfl hr2 ?_ | refine Lib.wpList_copy_run _ rfl _ _ 28 28 rfl _ _ rfl rfl hr3 ?_)
          go_roundg (n - 1 - (j + 1))
          case measure => omega
          case rel =>
            have hlen3 : (acc ++ l).length = acc.length + l.length := by rw [List.length_append]
            refine ⟨j + 1, acc ++ l, by omega, Nat.le_refl _, by go_num, by rw [hlen3]; first | rfl | (congr 1; done) | (push_cast; rfl) | (congr 1; push_cast; omega), HB3, (show Hid _ from ?_), (show Hid _ from ?_)⟩
            · show acc ++ l = _
              have hl' : (ls.drop 1)[j]? = some l := by rw [List.getElem?_drop]; exact hl
              rw [Lib.joinTail_take_succ [] (ls.drop 1) j l hl', HA.out]
              simp [List.append_assoc]
            · show (acc ++ l).length + _ = T
              rw [hlen3]; omega
        · obtain rfl : j = n - 1 := by omega
          have hjz : ¬ (((n - 1 : Nat) : Int) < ((n - 1 : Nat) : Int)) := by omega
          go_wp2_with fail
          go_ret
          have hfull : acc.length = T := by
            have := HR.out
            rw [← hn, Lib.rest_end] at this
            omega
          have hacc : acc = Lib.join ls [] := by
            rw [HA.out]
            cases hls : ls with
            | nil => rw [hls] at hn; simp at hn; omega
            | cons x r =>
              rw [hls] at hl0 hn
              simp at hl0
              subst hl0
              rw [Lib.join_cons]
              have : r.length = n - 1 := by simp at hn; omega
              simp [← this]
          rw [← hacc]
          exact ⟨_, rfl, HB.out.fresh hfull (by unfold maxLen; omega), HB.out.below⟩
end Go.Proofs.Ytingiihboibcdaa.D
