/- The contracts of mark and alive (the statements of layer wire); conditions: sizes below 2^47. -/
import Derived.Test.YtgfbbbbiaikacaaB1
namespace Go.Proofs.Ytgfbbbbiaikacaa.B
open Go.RowKit Go.Proofs.Ytgfbbbbiaikacaa.A Go.Proofs.YtgfbbbbiaikacaaW.PrintWords Go.Proofs.YtgfbbbbiaikacaaW.PrintLast Go.Proofs.YtgfbbbbiaikacaaW.PrintMore

theorem set_mark (l : List Int) (m : Int) (k : Nat) (hk : k < l.length) : (List.replicate k m ++ l.drop k).set k m = List.replicate (k + 1) m ++ l.drop (k + 1) := by
  rw [List.set_append_right _ _ (by simp), List.length_replicate, Nat.sub_self, List.drop_eq_getElem_cons hk, List.set_cons_zero, List.replicate_succ', List.append_assoc]
  rfl

set_option maxHeartbeats 400000 in
theorem mark_calls (B : Nat) (v : Value) (l : List Int) (m : Int) (w : World) (ho : Own w B v l) (hl : l.length ≤ 140737488355328) :
    Calls Try.prog 12 #[v, .int .u8 m] w fun e w' => e = .returned (.tuple #[]) ∧ Own w' B v (l.map fun _ => m) ∧ w.grownBy w' v.ownBlock := by
  obtain ⟨A, c, rfl, _⟩ := own_rd ho
  have HO := Lib.hid ho
  clear ho
  go_enter Try.func12, Try.ntmps12
  go_wp2_with fail
  go_loopw [7] (fun i wr => ∃ (k : Nat), i = .int .i64 k ∧ k ≤ l.length ∧ Hid (Own wr B (.slice A l.length c) (List.replicate k m ++ l.drop k)) ∧ Hid (w.grownBy wr (Value.slice A l.length c).ownBlock)) (fun i _ => l.length - (intOf i).toNat)
  case atStart => exact ⟨0, rfl, by omega, by simpa using HO, grown_refl _ _⟩
  case round =>
    obtain ⟨k, rfl, hk, hO, hG⟩ := hrel
    by_cases hlt : k < l.length
    · have hX : (List.replicate k m ++ l.drop k).length = l.length := by simp; omega
      have hO' : wr.ownsRow B 5 1 (.slice A l.length c) l.length (nums .u8 (List.replicate k m ++ l.drop k)) := by have h := hO.out; unfold Own at h; rw [hX] at h; exact h
      obtain ⟨g, cap, he, hgb, hgl⟩ := hO'.form (by omega)
      injection he with he1 he2 he3
      subst he1 he3
      have ha := own_at hO' (k : Int) (by omega) (by omega)
      have hs := own_store hO' (k : Int) m
      rw [Int.toNat_natCast] at ha hs
      obtain ⟨hc, hf⟩ := ha
      obtain ⟨hs1, hs2⟩ := hs
      rw [set_mark l m k hlt] at hs1
      replace hs1 : Hid (Own (wr.setCell ⟨g, k, none⟩ (.int .u8 m)) B (.slice (some ⟨g, 0, none⟩) l.length c) (List.replicate (k + 1) m ++ l.drop (k + 1))) := by
        have hX : (List.replicate (k + 1) m ++ l.drop (k + 1)).length = l.length := by simp; omega
        show World.ownsRow _ _ _ _ _ _ _
        rw [hX]
        exact hs1
      have hG2 : Hid (w.grownBy (wr.setCell ⟨g, k, none⟩ (.int .u8 m)) (Value.slice (some ⟨g, 0, none⟩) l.length c).ownBlock) := World.grownBy.trans hG.out hs2
      clear hO hO' hG hs2 hX hgb hgl HO
      go_wp2_with fail
      go_roundw
      case rel => exact ⟨k + 1, by go_num, by omega, hs1, hG2⟩
      case measure => simp [intOf]; omega
    · go_wp2_with fail
      go_end0
      obtain rfl : k = l.length := by omega
      have h := hO.out
      rw [List.drop_length, List.append_nil] at h
      exact ⟨rfl, by rw [List.map_const']; exact h, hG.out⟩

theorem alive_calls (w : World) :
    Calls Try.prog 11 #[] w fun e w' => e = .returned (.bool true) ∧ Below w.heap.size w w' := by
  have hlit : Rd (w.alloc (.cells #[.int .u8 9] 5)) (some ⟨w.heap.size, 0, none⟩) [9] := own_reads' (own_lit w w.heap.size 5 .u8 [9] (Nat.le_refl _) (by simp))
  have hlit := Lib.hid hlit
  go_enter Try.func11, Try.ntmps11
  go_wp2_with fail
  refine (NewReader_calls _ 1 [9] _ hlit.out (by simp)).mono ?_
  rintro e w1 ⟨g, A', c', rfl, ht, hg1, hb⟩
  have hbg : w.heap.size + 1 ≤ g := by have := ht.2.2.1; simpa using this
  replace ht := Lib.hid ht
  replace hb := Lib.hid hb
  go_wp2_with fail
  refine (Left_calls g A' 1 c' 0 _ ht.out.1 (by omega) (by omega) (by omega)).mono ?_
  rintro e w2 ⟨rfl, k, rfl⟩
  go_wp2_with fail
  refine (Byte_calls _ g A' c' [9] 0 _ (ht.out.drewN k) (by omega) (by simp)).mono ?_
  rintro e w2 ⟨rfl, ht2, hg2⟩
  replace ht2 := Lib.hid ht2
  replace hg2 := Lib.hid hg2
  have e9 : rd [9] 0 = 9 := rfl
  rw [e9]
  clear e9
  go_wp2_with fail
  refine (Left_calls g A' 1 c' (0 + 1) _ ht2.out.1 (by omega) (by omega) (by omega)).mono ?_
  rintro e w3 ⟨rfl, k2, rfl⟩
  go_wp2_with fail
  go_ret
  refine ⟨by simp, ?_⟩
  have h1 : Below w.heap.size w w1 := below_step (below_alloc (Below.refl _ _) _) hb.out
  have h2 : Below w.heap.size w w2 := (pw_below_drewN h1 k).grown hg2.out (by have := h1.size; simpa using this) (by intro q hq; injection hq with hq; omega)
  exact pw_below_drewN h2 k2
end Go.Proofs.Ytgfbbbbiaikacaa.B
