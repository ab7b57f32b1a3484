/- The contracts of the reader of layer wire (NewReader, well, left, Left, Byte, Raw) where it is well; conditions: sizes below 2^47. -/
import Derived.Test.YtgfbbbbiaikacaaA5
import Derived.Deep.QuietTactic
import Derived.BigQuiet
namespace Go.Proofs.Ytgfbbbbiaikacaa.B
open Go.RowKit Go.Proofs.Ytgfbbbbiaikacaa.A Go.Proofs.YtgfbbbbiaikacaaW.PrintWords Go.Proofs.YtgfbbbbiaikacaaW.PrintLast Go.Proofs.YtgfbbbbiaikacaaW.PrintMore

/-- a reader that is well, at block g -/
def Rdr (w : World) (g : Nat) (A : Option Addr) (n c : Nat) (at_ : Int) : Prop :=
  w.heap[g]? = some (.cells #[.slice A n c, .int .i64 at_, .bool true, .int .i64 0, .int .i64 0] 57 (0, 0))
theorem Rdr.cells {w : World} {g : Nat} {A : Option Addr} {n c : Nat} {at_ : Int} (h : Rdr w g A n c at_) :
    w.cell? ⟨g, 0, none⟩ = some (.slice A n c) ∧ w.cell? ⟨g, 1, none⟩ = some (.int .i64 at_) ∧ w.cell? ⟨g, 2, none⟩ = some (.bool true) ∧ w.cell? ⟨g, 3, none⟩ = some (.int .i64 0) ∧ w.cell? ⟨g, 4, none⟩ = some (.int .i64 0) :=
  ⟨blk_cell h 0, blk_cell h 1, blk_cell h 2, blk_cell h 3, blk_cell h 4⟩

theorem well_calls (g : Nat) (A : Option Addr) (n c : Nat) (at_ : Int) (w : World) (h : Rdr w g A n c at_) :
    Calls Try.prog 27 #[.pointer (some ⟨g, 0, none⟩)] w fun e w' => e = .returned (.bool true) ∧ w = w' := by
  obtain ⟨q0, q1, q2, q3, q4⟩ := h.cells
  clear h
  go_enter Try.func27, Try.ntmps27
  go_wp2_with fail
  go_ret
  exact ⟨rfl, rfl⟩

theorem left_calls (g : Nat) (A : Option Addr) (n c : Nat) (at_ : Int) (w : World) (h : Rdr w g A n c at_) (h0 : 0 ≤ at_) (h1 : at_ ≤ n) (hn : n ≤ 140737488355328) :
    Calls Try.prog 29 #[.pointer (some ⟨g, 0, none⟩)] w fun e w' => e = .returned (.int .i64 (n - at_)) ∧ ∃ k, w' = w.drewN k := by
  obtain ⟨q0, q1, q2, q3, q4⟩ := h.cells
  clear h
  go_enter Try.func29, Try.ntmps29
  go_wp2_with fail
  go_quiet (fail)
  go_wp2
  go_ret
  exact ⟨rfl, nq, rfl⟩

theorem Left_calls (g : Nat) (A : Option Addr) (n c : Nat) (at_ : Int) (w : World) (h : Rdr w g A n c at_) (h0 : 0 ≤ at_) (h1 : at_ ≤ n) (hn : n ≤ 140737488355328) :
    Calls Try.prog 15 #[.pointer (some ⟨g, 0, none⟩)] w fun e w' => e = .returned (.int .i64 (n - at_)) ∧ ∃ k, w' = w.drewN k := by
  have H := Lib.hid h
  clear h
  go_enter Try.func15, Try.ntmps15
  go_wp2_with fail
  refine (left_calls g A n c at_ _ H.out h0 h1 hn).mono ?_
  rintro e w' ⟨rfl, k, rfl⟩
  go_wp2_with fail
  go_ret
  exact ⟨rfl, k, rfl⟩

/-- what a reader reads: its bytes are the call's own from base on; the reader's block is none of theirs -/
def Tape (w : World) (B g : Nat) (A : Option Addr) (c : Nat) (bs : List Int) (at_ : Int) : Prop :=
  Rdr w g A bs.length c at_ ∧ Own w B (.slice A bs.length c) bs ∧ B ≤ g ∧ bs.length ≤ 140737488355328
theorem Tape.ne {w : World} {B g : Nat} {A : Option Addr} {c : Nat} {bs : List Int} {at_ : Int} (h : Tape w B g A c bs at_) : some g ≠ (Value.slice A bs.length c).ownBlock := own_ne h.2.1 h.1 (by decide)

theorem grown_drewN {w w' : World} {r : Option Nat} (k : Nat) (h : w.grownBy w' r) : w.grownBy (w'.drewN k) r := ⟨h.os, h.tape, h.output, h.size, h.block⟩
theorem grown_refl (w : World) (r : Option Nat) : w.grownBy w r := World.grownBy.refl w r
theorem grown_set {w w' : World} {g j : Nat} {v : Value} (h : w.grownBy w' (some g)) : w.grownBy (w'.setCell ⟨g, j, none⟩ v) (some g) :=
  ⟨h.os, h.tape, h.output, by simpa [World.setCell] using h.size, fun k hk hne => by rw [Below.heap_setCell _ _ _ _ (by simpa using fun e => hne (by rw [e]))]; exact h.block k hk hne⟩
theorem Tape.set {w : World} {B g : Nat} {A : Option Addr} {c : Nat} {bs : List Int} {at_ : Int} (h : Tape w B g A c bs at_) (x : Int) : Tape (w.setCell ⟨g, 1, none⟩ (.int .i64 x)) B g A c bs x :=
  ⟨by have := blk_set h.1 1 (.int .i64 x); simpa [Rdr] using this, own_setCell h.2.1 h.ne _, h.2.2⟩
theorem Tape.drewN {w : World} {B g : Nat} {A : Option Addr} {c : Nat} {bs : List Int} {at_ : Int} (h : Tape w B g A c bs at_) (k : Nat) : Tape (w.drewN k) B g A c bs at_ := h
theorem Tape.below {w w1 : World} {B g : Nat} {A : Option Addr} {c : Nat} {bs : List Int} {at_ : Int} (h : Tape w B g A c bs at_) (hb : Below w.heap.size w w1) : Tape w1 B g A c bs at_ :=
  ⟨(hb.block g (blk_lt h.1)).trans h.1, h.2.1.below hb, h.2.2⟩
theorem Tape.at_ {w : World} {B g : Nat} {A : Option Addr} {c : Nat} {bs : List Int} {p : Int} (h : Tape w B g A c bs p) (i : Int) (h0 : 0 ≤ i) (h1 : i < bs.length) : ∃ ad, A = some ad ∧ w.cell? (ad.add i.toNat) = some (.int .u8 (rd bs i)) :=
  (own_reads' h.2.1).at_ i h0 h1
theorem NewReader_calls (A : Option Addr) (c : Nat) (l : List Int) (w : World) (hr : Rd w A l) (hl : l.length ≤ 140737488355328) :
    Calls Try.prog 13 #[.slice A l.length c] w fun e w' => ∃ g A' c', e = .returned (.pointer (some ⟨g, 0, none⟩)) ∧ Tape w' w.heap.size g A' c' l 0 ∧ g < w'.heap.size ∧ Below w.heap.size w w' := by
  have HR := Lib.hid hr
  clear hr
  go_enter Try.func13, Try.ntmps13
  go_wp2_with fail
  refine (fresh_calls A c l 0 _ HR.out (by omega) (by omega) (by omega)).mono ?_
  rintro e w1 ⟨v1, rfl, ho, hb⟩
  obtain ⟨A', c', rfl, _⟩ := own_rd ho
  have hsz := hb.size
  replace ho := Lib.hid ho
  replace hb := Lib.hid hb
  go_wp2_with fail
  go_ret
  exact ⟨_, A', c', rfl, ⟨by simpa [Rdr] using heap_alloc_new w1 _, (ho.out.below (below_alloc (Below.refl _ _) _)), hsz, hl⟩, by simp, below_step hb.out (below_alloc (Below.refl _ _) _)⟩

theorem Byte_calls (B g : Nat) (A : Option Addr) (c : Nat) (bs : List Int) (at_ : Int) (w : World) (h : Tape w B g A c bs at_) (h0 : 0 ≤ at_) (h1 : at_ < bs.length) :
    Calls Try.prog 26 #[.pointer (some ⟨g, 0, none⟩)] w fun e w' => e = .returned (.int .u8 (rd bs at_)) ∧ Tape w' B g A c bs (at_ + 1) ∧ w.grownBy w' (some g) := by
  obtain ⟨q0, q1, q2, q3, q4⟩ := h.1.cells
  have hf := blk_frozen h.1 1
  have hl := h.2.2.2
  have HT := Lib.hid h
  clear h
  go_enter Try.func26, Try.ntmps26
  go_wp2_with fail
  refine (well_calls g A bs.length c at_ _ HT.out.1).mono ?_
  rintro e w' ⟨rfl, rfl⟩
  go_wp2_with fail
  refine (left_calls g A bs.length c at_ _ HT.out.1 h0 (by omega) hl).mono ?_
  rintro e w' ⟨rfl, k, rfl⟩
  go_wp2_with fail
  have ht2 := (HT.out.drewN k).set (at_ + 1)
  have hg2 : w.grownBy ((w.drewN k).setCell ⟨g, 1, none⟩ (.int .i64 (at_ + 1))) (some g) := grown_set (grown_drewN k (grown_refl w _))
  clear q0 q1 q2 q3 q4 hf HT
  generalize (w.drewN k).setCell ⟨g, 1, none⟩ (.int .i64 (at_ + 1)) = w2 at ht2 hg2 ⊢
  obtain ⟨q0, q1, q2, q3, q4⟩ := ht2.1.cells
  obtain ⟨ad, hA, qc⟩ := ht2.at_ at_ h0 h1
  subst hA
  replace ht2 := Lib.hid ht2
  replace hg2 := Lib.hid hg2
  go_quiet (fail)
  go_wp2
  go_ret
  exact ⟨rfl, ht2.out.drewN _, grown_drewN _ hg2.out⟩

theorem grown_below {w w1 w2 : World} {r : Option Nat} (h : w.grownBy w1 r) (hb : Below w1.heap.size w1 w2) : w.grownBy w2 r :=
  ⟨hb.os.trans h.os, hb.tape.trans h.tape, hb.output.trans h.output, Nat.le_trans h.size hb.size, fun k hk hne => (hb.block k (Nat.lt_of_lt_of_le hk h.size)).trans (h.block k hk hne)⟩
/-- what stands all along the last statement of Raw -/
abbrev RS (w w' : World) (B g : Nat) (A : Option Addr) (c : Nat) (bs : List Int) (p : Int) : Prop :=
  w'.cell? ⟨g, 0, none⟩ = some (.slice A bs.length c) ∧ w'.cell? ⟨g, 1, none⟩ = some (.int .i64 p) ∧ Hid (Tape w' B g A c bs p) ∧ Hid (w.grownBy w' (some g))
theorem RS.tape {w w' : World} {B g : Nat} {A : Option Addr} {c : Nat} {bs : List Int} {p : Int} (h : RS w w' B g A c bs p) : Tape w' B g A c bs p := h.2.2.1.out
theorem RS.below {w w' w2 : World} {B g : Nat} {A : Option Addr} {c : Nat} {bs : List Int} {p : Int} (h : RS w w' B g A c bs p) (hb : Below w'.heap.size w' w2) : RS w w2 B g A c bs p :=
  ⟨pw_cell_below hb h.1, pw_cell_below hb h.2.1, h.2.2.1.out.below hb, grown_below h.2.2.2.out hb⟩
theorem RS.size {w w' : World} {B g : Nat} {A : Option Addr} {c : Nat} {bs : List Int} {p : Int} (h : RS w w' B g A c bs p) : w.heap.size ≤ w'.heap.size := h.2.2.2.out.size
set_option maxHeartbeats 400000 in
theorem Raw_calls (B g : Nat) (A : Option Addr) (c : Nat) (bs : List Int) (at_ n : Int) (w : World) (h : Tape w B g A c bs at_) (h0 : 0 ≤ at_) (h1 : 0 ≤ n) (h2 : at_ + n ≤ bs.length) :
    Calls Try.prog 14 #[.pointer (some ⟨g, 0, none⟩), .int .i64 n] w fun e w' => ∃ v, e = .returned v ∧ Own w' w.heap.size v ((bs.take (at_ + n).toNat).drop at_.toNat) ∧ Tape w' B g A c bs (at_ + n) ∧ w.grownBy w' (some g) := by
  obtain ⟨q0, q1, q2, q3, q4⟩ := h.1.cells
  have hf := blk_frozen h.1 1
  have hl := h.2.2.2
  have HT := Lib.hid h
  clear h
  go_enter Try.func14, Try.ntmps14
  go_wp2_with fail
  refine (well_calls g A bs.length c at_ _ HT.out.1).mono ?_
  rintro e w' ⟨rfl, rfl⟩
  go_wp2_with fail
  refine (left_calls g A bs.length c at_ _ HT.out.1 h0 (by omega) hl).mono ?_
  rintro e w' ⟨rfl, k, rfl⟩
  go_wp2_with fail
  have ht2 := (HT.out.drewN k).set (at_ + n)
  have hg2 : w.grownBy ((w.drewN k).setCell ⟨g, 1, none⟩ (.int .i64 (at_ + n))) (some g) := grown_set (grown_drewN k (grown_refl w _))
  clear q0 q1 q2 q3 q4 hf HT
  generalize (w.drewN k).setCell ⟨g, 1, none⟩ (.int .i64 (at_ + n)) = w2 at ht2 hg2 ⊢
  obtain ⟨q0, q1, q2, q3, q4⟩ := ht2.1.cells
  replace ht2 := Lib.hid ht2
  replace hg2 := Lib.hid hg2
  obtain ⟨i0, hi, hzz⟩ := Option.map_eq_some_iff.1 info5
  simp only [Prod.mk.injEq] at hzz
  have hcap : bs.length ≤ c := own_cap ht2.out.2.1
  obtain ⟨A', hrun, hrd, _⟩ := print_mid_int 23 5 Try.underlying23 hi hzz.2.1 A c bs at_ (at_ + n) h0 (by omega) h2 hcap
  have hrl : Hid (∀ w : World, Tape w B g A c bs (at_ + n) → Rd w A' ((bs.take (at_ + n).toNat).drop at_.toNat)) := fun w h => hrd w (own_reads' h.2.1)
  have hlen : ((bs.take (at_ + n).toNat).drop at_.toNat).length ≤ 140737488355328 := by rw [List.length_drop, List.length_take]; omega
  clear hrd hi hzz
  obtain ⟨X, hX⟩ : ∃ X, X = (bs.take (at_ + n).toNat).drop at_.toNat := ⟨_, rfl⟩
  rw [← hX] at hrun hrl hlen
  replace hX := Lib.hid hX
  clear q2 q3 q4
  have esub : IntKind.i64.wrap (at_ + n - n) = at_ := by rw [IntKind.wrap_i64]; omega
  have esub2 : IntKind.i64.wrap at_ = at_ := by rw [IntKind.wrap_i64]; omega
  go_region_held3 (fun w' => w'.cell? ⟨g, 0, none⟩ = some (.slice A bs.length c) ∧ w'.cell? ⟨g, 1, none⟩ = some (.int .i64 (at_ + n)) ∧ Hid (Tape w' B g A c bs (at_ + n)) ∧ Hid (w.grownBy w' (some g))) (first | exact ⟨q0, q1, ht2.out.drewN 1, grown_drewN 1 hg2.out⟩ | assumption) (first | (go_at_call 25; have hS := (by assumption : RS w _ B g A c bs (at_ + n)); refine (fresh_calls A' _ X 0 _ (hrl.out _ hS.tape) (by omega) (by omega) hlen).mono ?_; rintro e w3 ⟨v3, rfl, ho3, hb3⟩; have hS3 := hS.below hb3; replace ho3 := Lib.hid (ho3.lower hS.size); clear hb3))
  go_wp2
  go_ret
  exact ⟨_, rfl, by rw [← hX.out]; exact ho3.out, hS3.2.2.1.out, hS3.2.2.2.out⟩
end Go.Proofs.Ytgfbbbbiaikacaa.B
