/- The contracts of a duct that no call made, and of alive. -/
import Derived.Test.YtingiihboibcdaaD6
import Derived.Lib.SlBytesConst
namespace Go.Proofs.Ytingiihboibcdaa.D
open Go.RowKit Go.Proofs.YtingiihboibcdaaW.PrintWords Go.Proofs.YtingiihboibcdaaW.PrintLast Go.Proofs.YtingiihboibcdaaW.PrintMore

/-- an empty struct -/
def Zero (w : World) (gd : Nat) : Prop := w.heap[gd]? = some (.cells #[.pointer none, .bool false, .int .i64 0, .int .i64 0, .int .i64 0, .int .i64 0] 51 (0, 0))
/-- a duct that no call made -/
def Un (R : Value) (w : World) : Prop := R = .pointer none ∨ ∃ gd, R = .pointer (some ⟨gd, 0, none⟩) ∧ Zero w gd
variable (R : Value) (w : World) (h : Un R w)
include h
theorem made_un : Calls Try.prog 25 #[R] w fun e w' => e = .returned (.bool false) ∧ w = w' := by
  rcases h with rfl | ⟨gd, rfl, hz⟩
  · exact made_nil w
  · exact made_no gd w (blk_cell hz 0)
theorem first_un (n : Int) : Calls Try.prog 27 #[R, .int .i64 n] w fun e w' => e = .returned (.int .i64 0) ∧ w = w' := by
  go_enter Try.func27, Try.ntmps27
  go_wp2_with (first | (go_at_call 25; go_must (refine (made_un R _ h).mono ?_); rintro e w' ⟨rfl, rfl⟩))
  go_ret
  exact ⟨rfl, rfl⟩
theorem Write_un (A : Option Addr) (n c : Nat) : Calls Try.prog 8 #[R, .slice A n c] w fun e w' => e = .returned (.tuple #[.int .i64 0, .int .i64 2]) ∧ w = w' := by
  go_enter Try.func8, Try.ntmps8
  go_wp2_with (first | (go_at_call 25; go_must (refine (made_un R _ h).mono ?_); rintro e w' ⟨rfl, rfl⟩))
  go_ret2
  exact ⟨rfl, rfl⟩
theorem Lose_un (a b : Int) : Calls Try.prog 22 #[R, .int .i64 a, .int .i64 b] w fun e w' => e = .returned (.tuple #[.int .i64 0, .int .i64 2]) ∧ w = w' := by
  go_enter Try.func22, Try.ntmps22
  go_wp2_with (first | (go_at_call 25; go_must (refine (made_un R _ h).mono ?_); rintro e w' ⟨rfl, rfl⟩))
  go_ret2
  exact ⟨rfl, rfl⟩
theorem Turn_un (a b : Int) : Calls Try.prog 23 #[R, .int .i64 a, .int .u8 b] w fun e w' => e = .returned (.int .i64 2) ∧ w = w' := by
  go_enter Try.func23, Try.ntmps23
  go_wp2_with (first | (go_at_call 25; go_must (refine (made_un R _ h).mono ?_); rintro e w' ⟨rfl, rfl⟩))
  go_ret
  exact ⟨rfl, rfl⟩
theorem Shut_un : Calls Try.prog 11 #[R] w fun e w' => e = .returned (.int .i64 2) ∧ w = w' := by
  go_enter Try.func11, Try.ntmps11
  go_wp2_with (first | (go_at_call 25; go_must (refine (made_un R _ h).mono ?_); rintro e w' ⟨rfl, rfl⟩))
  go_ret
  exact ⟨rfl, rfl⟩
theorem Read_un (n : Int) : Calls Try.prog 10 #[R, .int .i64 n] w fun e w' => e = .returned (.slice none 0 0) ∧ w = w' := by
  go_enter Try.func10, Try.ntmps10
  go_wp2_with (first | (go_at_call 27; go_must (refine (first_un R _ h n).mono ?_); rintro e w' ⟨rfl, rfl⟩))
  go_ret
  exact ⟨rfl, rfl⟩
theorem Peek_un (n : Int) : Calls Try.prog 14 #[R, .int .i64 n] w fun e w' => e = .returned (.slice none 0 0) ∧ w = w' := by
  go_enter Try.func14, Try.ntmps14
  go_wp2_with (first | (go_at_call 27; go_must (refine (first_un R _ h n).mono ?_); rintro e w' ⟨rfl, rfl⟩))
  go_ret
  exact ⟨rfl, rfl⟩
theorem Len_un : Calls Try.prog 12 #[R] w fun e w' => e = .returned (.int .i64 0) ∧ w = w' := by
  go_enter Try.func12, Try.ntmps12
  go_wp2_with (first | (go_at_call 25; go_must (refine (made_un R _ h).mono ?_); rintro e w' ⟨rfl, rfl⟩))
  go_ret
  exact ⟨rfl, rfl⟩
theorem Room_un : Calls Try.prog 18 #[R] w fun e w' => e = .returned (.int .i64 0) ∧ w = w' := by
  go_enter Try.func18, Try.ntmps18
  go_wp2_with (first | (go_at_call 25; go_must (refine (made_un R _ h).mono ?_); rintro e w' ⟨rfl, rfl⟩))
  go_ret
  exact ⟨rfl, rfl⟩
theorem Done_un : Calls Try.prog 20 #[R] w fun e w' => e = .returned (.bool false) ∧ w = w' := by
  go_enter Try.func20, Try.ntmps20
  go_wp2_with (first | (go_at_call 25; go_must (refine (made_un R _ h).mono ?_); rintro e w' ⟨rfl, rfl⟩))
  go_ret
  exact ⟨rfl, rfl⟩
theorem Count_un : Calls Try.prog 15 #[R] w fun e w' => e = .returned (.agg #[.int .i64 0, .int .i64 0, .int .i64 0, .int .i64 0]) ∧ Below w.heap.size w w' := by
  rcases h with rfl | ⟨gd, rfl, hz⟩
  · go_enter Try.func15, Try.ntmps15
    go_wp2_with fail
    refine bodyPost_ret (v := .agg #[.int .i64 0, .int .i64 0, .int .i64 0, .int .i64 0]) (by simp [results, Try.results15, go_sem]) rfl ⟨rfl, below_alloc (Below.refl _ _) _⟩
  · have q2 := blk_cell hz 2
    have q3 := blk_cell hz 3
    have q4 := blk_cell hz 4
    have q5 := blk_cell hz 5
    have hlt := blk_lt hz
    simp only [List.getElem?_toArray, List.getElem?_cons_zero, List.getElem?_cons_succ] at q2 q3 q4 q5
    go_enter Try.func15, Try.ntmps15
    go_wp2_with fail
    refine bodyPost_ret (v := .agg #[.int .i64 0, .int .i64 0, .int .i64 0, .int .i64 0]) (by simp [results, Try.results15, go_sem]) rfl ⟨rfl, below_alloc (Below.refl _ _) _⟩
omit h
/-- the parts of a literal -/
theorem parts_lit {W : World} {g : Nat} {b1 b2 : Nat} {l1 l2 : List Int} (h : W.heap[g]? = some (.cells #[.slice (some ⟨b1, 0, none⟩) l1.length l1.length, .slice (some ⟨b2, 0, none⟩) l2.length l2.length] 28 (0, 0))) (h1 : Rd W (some ⟨b1, 0, none⟩) l1) (h2 : Rd W (some ⟨b2, 0, none⟩) l2) : PartsRd W (some ⟨g, 0, none⟩) [l1, l2] := by
  refine ⟨by simp, fun k hk => ?_⟩
  match k, hk with
  | 0, _ => exact ⟨_, _, _, rfl, by rw [add_plain]; exact blk_cell h 0, Nat.le_refl _, h1⟩
  | 1, _ => exact ⟨_, _, _, rfl, by rw [add_plain]; exact blk_cell h 1, Nat.le_refl _, h2⟩
/-- a block of bytes that is read, marked or not -/
theorem rd_row {W : World} {g : Nat} {l : List Int} {fr : Nat × Nat} (h : W.heap[g]? = some (.cells (nums .u8 l).toArray 5 fr)) (hl : l.length ≤ 9223372036854775807) : Rd W (some ⟨g, 0, none⟩) l :=
  ⟨rfl, hl, fun _ => ⟨_, rfl, fun j hj => by
    rw [add_plain, cell_of_row W g j _ 5 fr h]
    simp [nums, List.getElem?_eq_getElem hj, List.getD_eq_getElem?_getD]⟩⟩
theorem heap_two (w : World) (a b : Obj) : ((w.alloc a).alloc b).heap[w.heap.size]? = some a := by
  rw [Below.heap_alloc _ _ _ (by simp)]
  exact heap_alloc_new w a
set_option maxHeartbeats 1000000 in
theorem alive_calls : Calls Try.prog 7 #[] w fun e w' => e = .returned (.bool true) ∧ Below w.heap.size w w' := by
  go_enter Try.func7, Try.ntmps7
  go_wp2_with fail
  refine (New_good 2 _ (by omega) (by omega)).mono ?_
  rintro e w1 ⟨gd, gb, v, rfl, hD, hb⟩
  have hsz := hb.size
  replace hD := Lib.hid hD
  replace hb := Lib.hid hb
  have kc := fun (w : World) (C : Array Value) (n c : Nat) => Lib.run_convert_bytes_const (P := Try.prog) w 28 5 C n c Try.underlying28 Try.underlying5
  have hsz2 : (w1.alloc (.cells #[.int .u8 97, .int .u8 98] 5 (2, 3))).heap.size = w1.heap.size + 1 := by simp
  have kc2 := Lib.run_convert_bytes_const (P := Try.prog) (w1.alloc (.cells #[.int .u8 97, .int .u8 98] 5 (2, 3))) 28 5 #[.int .u8 99] 1 1 Try.underlying28 Try.underlying5
  rw [hsz2] at kc2
  go_wp2_with fail
  obtain ⟨W, hW⟩ : ∃ W, W = ((w1.alloc (.cells #[.int .u8 97, .int .u8 98] 5 (2, 3))).alloc (.cells #[.int .u8 99] 5 (1, 2))).alloc (.cells #[.slice (some ⟨w1.heap.size, 0, none⟩) 2 2, .slice (some ⟨w1.heap.size + 1, 0, none⟩) 1 1] 28) := ⟨_, rfl⟩
  have b3 : Below w1.heap.size w1 W := by rw [hW]; exact ((((Below.refl _ _).alloc (Nat.le_refl _) _).alloc (by simp) _).alloc (by simp; omega) _)
  have e1 : W.heap[w1.heap.size]? = some (.cells (nums .u8 [97, 98]).toArray 5 (2, 3)) := by
    rw [hW, Below.heap_alloc _ _ _ (by simp; omega), Below.heap_alloc _ _ _ (by simp)]
    exact heap_alloc_new _ _
  have e2 : W.heap[w1.heap.size + 1]? = some (.cells (nums .u8 [99]).toArray 5 (1, 2)) := by
    rw [hW, Below.heap_alloc _ _ _ (by simp)]
    have := heap_alloc_new (w1.alloc (.cells #[.int .u8 97, .int .u8 98] 5 (2, 3))) (.cells #[.int .u8 99] 5 (1, 2))
    rw [hsz2] at this
    exact this
  have e3 : W.heap[w1.heap.size + 2]? = some (.cells #[.slice (some ⟨w1.heap.size, 0, none⟩) 2 2, .slice (some ⟨w1.heap.size + 1, 0, none⟩) 1 1] 28 (0, 0)) := by
    rw [hW]
    simpa using heap_alloc_new ((w1.alloc (.cells #[.int .u8 97, .int .u8 98] 5 (2, 3))).alloc (.cells #[.int .u8 99] 5 (1, 2))) (.cells #[.slice (some ⟨w1.heap.size, 0, none⟩) 2 2, .slice (some ⟨w1.heap.size + 1, 0, none⟩) 1 1] 28)
  have hfd := hD.out.fd
  have hD3 := hD.out.below b3
  rw [← hW]
  clear kc kc2 hW hsz2
  have hwr := Write_calls w.heap.size gd gb v (new0 2) W (some ⟨w1.heap.size + 2, 0, none⟩) 2 [[97, 98], [99]] hD3 rfl (by simp [new0]) (fun W' hc =>
    parts_lit (hc.blk e3 (fun hk => by have := (hfd _ hk).2; omega)) (rd_row (hc.blk e1 (fun hk => by have := (hfd _ hk).2; omega)) (by simp)) (rd_row (hc.blk e2 (fun hk => by have := (hfd _ hk).2; omega)) (by simp)))
  have eD : writeD (new0 2) [[97, 98], [99]] = ⟨2, [97, 98], false, 2, 0, 0, 0⟩ := by rfl
  have eN : ((fill (new0 2).room (new0 2).held [[97, 98], [99]]).length : Int) - (new0 2).held.length = 2 := by rfl
  rw [eD, eN] at hwr
  refine hwr.mono ?_
  clear hwr e1 e2 e3 eD eN
  rintro e w4 ⟨rfl, v4, hD4, hn4, hc4⟩
  have hb4 : Below w.heap.size w w4 := (below_weaken hb.out hb.out.size b3).trans (hc4.below (by have := b3.size; omega) (fun q hq => (hfd q hq).1))
  have hs4 := hb4.size
  have hfd4 := hD4.fd
  replace hD4 := Lib.hid hD4
  replace hb4 := Lib.hid hb4
  clear hc4 hn4 hD3 b3 hb hD
  go_wp2_with fail
  refine (Read_calls w.heap.size gd gb v4 _ _ 9 hD4.out (by decide)).mono ?_
  rintro e w5 ⟨v5, rfl, ho5, v6, _, _, hc5⟩
  have eT : (⟨2, [97, 98], false, 2, 0, 0, 0⟩ : DS).held.take (firstN ⟨2, [97, 98], false, 2, 0, 0, 0⟩ 9) = [97, 98] := by rfl
  rw [eT] at ho5
  obtain ⟨A5, c5, rfl, hr5⟩ := own_rd ho5
  have hcv : (convert 28 9 (.slice A5 2 c5)).run Try.prog w5 = .ok (.string (strOfNums [97, 98])) w5 := string_of_reads Try.underlying28 Try.underlying5 Try.underlying9 hr5
  have eS : strOfNums [97, 98] = ⟨#[97, 98]⟩ := by rfl
  rw [eS] at hcv
  have hb5 := Lib.hid (hb4.out.trans (hc5.below (by omega) (fun q hq => (hfd4 q hq).1)))
  clear eT ho5 hr5 hc5 hD4 hfd hfd4 eS
  go_wp2_with fail
  go_ret
  exact ⟨by simp, hb5.out⟩
end Go.Proofs.Ytingiihboibcdaa.D
