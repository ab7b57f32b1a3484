/- A memo in memory; the contracts of New, made and Len. -/
import Derived.Test.YtecgbhiebaiokaaH5
import Derived.WalkSpells
namespace Go.Proofs.Ytecgbhiebaiokaa.G
open Go.RowKit Go.Proofs.YtecgbhiebaiokaaW.PrintWords Go.Proofs.YtecgbhiebaiokaaW.PrintLast Go.Proofs.YtecgbhiebaiokaaW.PrintMore
set_option linter.unusedSimpArgs false
set_option linter.unusedVariables false
structure Memo {α : Type} [DecidableEq α] (T : KT α) (w : World) (B gm gb : Nat) (most h m g : Int) (L : List (Ent α)) : Prop where
  ch : Chain T w gm gb most h m g L
  mp : MapL T w gb L
  bm : B ≤ gm
  bb : B ≤ gb
  bg : ∀ e ∈ L, B ≤ e.g
  uq : Uniq L
  okk : ∀ e ∈ L, T.ok e.k
  ln : (L.length : Int) ≤ most
  m1 : 1 ≤ most
  m2 : most ≤ 4096
  h0 : 0 ≤ h
  h1 : h ≤ 1152921504606846976
  i0 : 0 ≤ m
  i1 : m ≤ 1152921504606846976
  g0 : 0 ≤ g
  g1 : g ≤ 1152921504606846976
/-- what a call on a memo may change -/
def FM {α : Type} (gm gb : Nat) (L : List (Ent α)) (k : Nat) : Prop := k = gm ∨ k = gb ∨ ∃ e ∈ L, e.g = k
theorem Chain.chg {α : Type} {T : KT α} {w w1 : World} {gm gb : Nat} {most h m g : Int} {L : List (Ent α)} {S : Nat → Prop} (hC : Chain T w gm gb most h m g L) (hc : Chg w w1 S) (hm : ¬ S gm) (hn : ∀ e ∈ L, ¬ S e.g) : Chain T w1 gm gb most h m g L :=
  ⟨hC.mem.chg hc hm, hC.row.chg hc hn, hC.gu⟩
section
variable {α : Type} [DecidableEq α] {T : KT α} {w w1 : World} {B gm gb : Nat} {most h m g : Int} {L : List (Ent α)}
theorem Memo.chg {S : Nat → Prop} (hM : Memo T w B gm gb most h m g L) (hc : Chg w w1 S) (hn : ∀ k, FM gm gb L k → ¬ S k) : Memo T w1 B gm gb most h m g L :=
  ⟨hM.ch.chg hc (hn _ (.inl rfl)) (fun e he => hn _ (.inr (.inr ⟨e, he, rfl⟩))), hM.mp.chg hc (hn _ (.inr (.inl rfl))), hM.bm, hM.bb, hM.bg, hM.uq, hM.okk, hM.ln, hM.m1, hM.m2, hM.h0, hM.h1, hM.i0, hM.i1, hM.g0, hM.g1⟩
theorem Memo.below (hM : Memo T w B gm gb most h m g L) (hb : Below w.heap.size w w1) : Memo T w1 B gm gb most h m g L := hM.chg (Chg.of_below hb (fun _ => False)) (fun _ _ h => h)
theorem Memo.drewN (hM : Memo T w B gm gb most h m g L) (k : Nat) : Memo T (w.drewN k) B gm gb most h m g L :=
  ⟨⟨hM.ch.mem, hM.ch.row, hM.ch.gu⟩, hM.mp, hM.bm, hM.bb, hM.bg, hM.uq, hM.okk, hM.ln, hM.m1, hM.m2, hM.h0, hM.h1, hM.i0, hM.i1, hM.g0, hM.g1⟩
theorem Memo.fm (hM : Memo T w B gm gb most h m g L) : ∀ k, FM gm gb L k → B ≤ k ∧ k < w.heap.size := by
  rintro k (rfl | rfl | ⟨e, he, rfl⟩)
  · exact ⟨hM.bm, blk_lt hM.ch.mem⟩
  · exact ⟨hM.bb, hM.mp.lt⟩
  · obtain ⟨j, hj, rfl⟩ := List.getElem_of_mem he
    exact ⟨hM.bg _ he, blk_lt (hM.ch.row j hj)⟩
end
def NewPost {α : Type} [DecidableEq α] (T : KT α) (w : World) (most : Int) (e : Ending) (w' : World) : Prop := ∃ gm gb, e = .returned (.tuple #[.pointer (some ⟨gm, 0, none⟩), .int .i64 0]) ∧ Memo T w' w.heap.size gm gb most 0 0 0 [] ∧ Below w.heap.size w w'
theorem New_I_bad (most : Int) (w : World) (h : most < 1 ∨ 4096 < most) :
    Calls Try.prog 8 #[.int .i64 most] w fun e w' => e = .returned (.tuple #[.pointer none, .int .i64 1]) ∧ w = w' := by
  rcases h with h | h
  · go_enter Try.func8, Try.ntmps8
    go_wp2_with fail
    go_ret2
    exact ⟨rfl, rfl⟩
  · have h1 : ¬ most < 1 := by omega
    go_enter Try.func8, Try.ntmps8
    go_wp2_with fail
    go_ret2
    exact ⟨rfl, rfl⟩
theorem New_I (most : Int) (w : World) (h : 1 ≤ most) (h2 : most ≤ 4096) :
    Calls Try.prog 8 #[.int .i64 most] w fun e w' => NewPost ktI w most e w' := by
  have h1 : ¬ most < 1 := by omega
  have h3 : ¬ 4096 < most := by omega
  have hmm := @run_makeMap Try.prog
  go_enter Try.func8, Try.ntmps8
  go_wp2_with fail
  go_ret2
  have b1 := below_alloc (Below.refl _ w) (.map #[] 0)
  have b2 := below_alloc (Below.refl _ (w.alloc (.map #[] 0))) (.cells #[.int .i64 most, .map (some w.heap.size), .pointer none, .pointer none, .int .i64 0, .int .i64 0, .int .i64 0] 66)
  refine ⟨(w.alloc (.map #[] 0)).heap.size, w.heap.size, by simp, ⟨⟨heap_alloc_new _ _, fun j hj => absurd hj (by simp), by simp [GUniq]⟩, (MapL.new ktI w).chg (Chg.of_below b2 (fun _ => False)) (fun h => h), by simp, Nat.le_refl _, by simp, by simp [Uniq], by simp, by simp; omega, h, h2, by omega, by omega, by omega, by omega, by omega, by omega⟩, below_step b1 b2⟩
theorem made_I (w : World) (B gm gb : Nat) (most h m g : Int) (L : List (Ent Int)) (hM : Memo ktI w B gm gb most h m g L) :
    Calls Try.prog 28 #[.pointer (some ⟨gm, 0, none⟩)] w fun e w' => e = .returned (.bool true) ∧ w = w' := by
  have q1 : w.cell? ⟨gm, 1, none⟩ = some (.map (some gb)) := blk_cell hM.ch.mem 1
  have hq : ∀ w : World, _ := fun w => run_neq_map_nil (P := Try.prog) w 63 _ _ (some gb) Try.underlying63
  simp only [Option.isNone_some, Bool.not_false] at hq
  clear hM
  go_enter Try.func28, Try.ntmps28
  go_wp2_with fail
  go_ret
  exact ⟨rfl, rfl⟩
theorem Len_I (w : World) (B gm gb : Nat) (most h m g : Int) (L : List (Ent Int)) (hM : Memo ktI w B gm gb most h m g L) :
    Calls Try.prog 13 #[.pointer (some ⟨gm, 0, none⟩)] w fun e w' => e = .returned (.int .i64 L.length) ∧ w = w' := by
  have q1 : w.cell? ⟨gm, 1, none⟩ = some (.map (some gb)) := blk_cell hM.ch.mem 1
  have hl : ∀ ty, (Builtin.len_ #[63] ty #[.map (some gb)]).run Try.prog w = .ok (.int .i64 L.length) w := fun ty => hM.mp.len klI ty
  have HM := Lib.hid hM
  clear hM
  go_enter Try.func13, Try.ntmps13
  go_wp2_with (first | (go_at_call 28; go_must (refine (made_I w B gm gb most h m g L HM.out).mono ?_); rintro e w' ⟨rfl, rfl⟩))
  go_ret
  exact ⟨rfl, rfl⟩
theorem New_S_bad (most : Int) (w : World) (h : most < 1 ∨ 4096 < most) :
    Calls Try.prog 24 #[.int .i64 most] w fun e w' => e = .returned (.tuple #[.pointer none, .int .i64 1]) ∧ w = w' := by
  rcases h with h | h
  · go_enter Try.func24, Try.ntmps24
    go_wp2_with fail
    go_ret2
    exact ⟨rfl, rfl⟩
  · have h1 : ¬ most < 1 := by omega
    go_enter Try.func24, Try.ntmps24
    go_wp2_with fail
    go_ret2
    exact ⟨rfl, rfl⟩
theorem New_S (most : Int) (w : World) (h : 1 ≤ most) (h2 : most ≤ 4096) :
    Calls Try.prog 24 #[.int .i64 most] w fun e w' => NewPost ktS w most e w' := by
  have h1 : ¬ most < 1 := by omega
  have h3 : ¬ 4096 < most := by omega
  have hmm := @run_makeMap Try.prog
  go_enter Try.func24, Try.ntmps24
  go_wp2_with fail
  go_ret2
  have b1 := below_alloc (Below.refl _ w) (.map #[] 0)
  have b2 := below_alloc (Below.refl _ (w.alloc (.map #[] 0))) (.cells #[.int .i64 most, .map (some w.heap.size), .pointer none, .pointer none, .int .i64 0, .int .i64 0, .int .i64 0] 82)
  refine ⟨(w.alloc (.map #[] 0)).heap.size, w.heap.size, by simp, ⟨⟨heap_alloc_new _ _, fun j hj => absurd hj (by simp), by simp [GUniq]⟩, (MapL.new ktS w).chg (Chg.of_below b2 (fun _ => False)) (fun h => h), by simp, Nat.le_refl _, by simp, by simp [Uniq], by simp, by simp; omega, h, h2, by omega, by omega, by omega, by omega, by omega, by omega⟩, below_step b1 b2⟩
theorem made_S (w : World) (B gm gb : Nat) (most h m g : Int) (L : List (Ent ByteArray)) (hM : Memo ktS w B gm gb most h m g L) :
    Calls Try.prog 39 #[.pointer (some ⟨gm, 0, none⟩)] w fun e w' => e = .returned (.bool true) ∧ w = w' := by
  have q1 : w.cell? ⟨gm, 1, none⟩ = some (.map (some gb)) := blk_cell hM.ch.mem 1
  have hq : ∀ w : World, _ := fun w => run_neq_map_nil (P := Try.prog) w 79 _ _ (some gb) Try.underlying79
  simp only [Option.isNone_some, Bool.not_false] at hq
  clear hM
  go_enter Try.func39, Try.ntmps39
  go_wp2_with fail
  go_ret
  exact ⟨rfl, rfl⟩
theorem Len_S (w : World) (B gm gb : Nat) (most h m g : Int) (L : List (Ent ByteArray)) (hM : Memo ktS w B gm gb most h m g L) :
    Calls Try.prog 27 #[.pointer (some ⟨gm, 0, none⟩)] w fun e w' => e = .returned (.int .i64 L.length) ∧ w = w' := by
  have q1 : w.cell? ⟨gm, 1, none⟩ = some (.map (some gb)) := blk_cell hM.ch.mem 1
  have hl : ∀ ty, (Builtin.len_ #[79] ty #[.map (some gb)]).run Try.prog w = .ok (.int .i64 L.length) w := fun ty => hM.mp.len klS ty
  have HM := Lib.hid hM
  clear hM
  go_enter Try.func27, Try.ntmps27
  go_wp2_with (first | (go_at_call 39; go_must (refine (made_S w B gm gb most h m g L HM.out).mono ?_); rintro e w' ⟨rfl, rfl⟩))
  go_ret
  exact ⟨rfl, rfl⟩
end Go.Proofs.Ytecgbhiebaiokaa.G
