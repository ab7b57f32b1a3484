/- The contract of Look. -/
import Derived.Test.YtecgbhiebaiokaaH8
namespace Go.Proofs.Ytecgbhiebaiokaa.G
open Go.RowKit Go.Proofs.YtecgbhiebaiokaaW.PrintWords Go.Proofs.YtecgbhiebaiokaaW.PrintLast Go.Proofs.YtecgbhiebaiokaaW.PrintMore
theorem Look_I_miss (w : World) (B gm gb : Nat) (most h m g : Int) (L : List (Ent Int)) (k : Int) (hM : Memo ktI w B gm gb most h m g L) (hk : ktI.ok k) (hh : has k L = false) :
    Calls Try.prog 12 #[.pointer (some ⟨gm, 0, none⟩), .int .i64 k] w fun e w' => e = .returned (.tuple #[.int .i64 0, .bool false]) ∧ w = w' := by
  have q1 : w.cell? ⟨gm, 1, none⟩ = some (.map (some gb)) := blk_cell hM.ch.mem 1
  have hl : (Instr.lookup 63 (.map (some gb)) (.int .i64 k) false).run Try.prog w = .ok (.pointer none) w := by
    have := hM.mp.lookup klI hk
    rw [look_miss hh] at this
    exact this
  have HM := Lib.hid hM
  clear hM
  go_enter Try.func12, Try.ntmps12
  go_wp2_with (first | (go_at_call 28; go_must (refine (made_I w B gm gb most h m g L HM.out).mono ?_); rintro e w' ⟨rfl, rfl⟩))
  go_ret2
  exact ⟨rfl, rfl⟩
theorem Look_I_hit (w : World) (B gm gb : Nat) (most h m g : Int) (L : List (Ent Int)) (k : Int) (hM : Memo ktI w B gm gb most h m g L) (hk : ktI.ok k) (hh : has k L = true) :
    Calls Try.prog 12 #[.pointer (some ⟨gm, 0, none⟩), .int .i64 k] w fun e w' => e = .returned (.tuple #[.int .i64 (L[at_ k L]'(at_lt hh)).v, .bool true]) ∧ w = w' := by
  have q1 : w.cell? ⟨gm, 1, none⟩ = some (.map (some gb)) := blk_cell hM.ch.mem 1
  obtain ⟨e0, he0⟩ : ∃ e0, e0 = L[at_ k L]'(at_lt hh) := ⟨_, rfl⟩
  have hl : (Instr.lookup 63 (.map (some gb)) (.int .i64 k) false).run Try.prog w = .ok (.pointer (some ⟨e0.g, 0, none⟩)) w := by
    have := hM.mp.lookup klI hk
    rw [look_hit hh, ← he0] at this
    exact this
  have qv : w.cell? ⟨e0.g, 1, none⟩ = some (.int .i64 e0.v) := by rw [he0]; exact blk_cell (hM.ch.row _ (at_lt hh)) 1
  rw [← he0]
  have HM := Lib.hid hM
  clear hM he0
  go_enter Try.func12, Try.ntmps12
  go_wp2_with (first | (go_at_call 28; go_must (refine (made_I w B gm gb most h m g L HM.out).mono ?_); rintro e w' ⟨rfl, rfl⟩))
  go_ret2
  exact ⟨rfl, rfl⟩
section
variable {α : Type} [DecidableEq α] {T : KT α} {w : World} {B gm gb : Nat} {most h m g : Int} {L : List (Ent α)}
omit [DecidableEq α] in
theorem gAt_set (L : List (Ent α)) (i : Nat) (hi : i < L.length) (v : Int) (j : Nat) : gAt (L.set i ⟨L[i].k, v, L[i].g⟩) j = gAt L j := by
  unfold gAt
  rw [List.getElem?_set]
  split
  · rename_i he
    subst he
    simp [hi]
  · rfl
end
end Go.Proofs.Ytecgbhiebaiokaa.G
