/- The walk of the law DuctNil: it returns true. -/
import Derived.Test.YtingiihboibcdaaD7
namespace Go.Proofs.Ytingiihboibcdaa.D
open Go.RowKit Go.Proofs.YtingiihboibcdaaW.PrintWords Go.Proofs.YtingiihboibcdaaW.PrintLast Go.Proofs.YtingiihboibcdaaW.PrintMore

structure ActD where
  kind : Int
  parts : List (List Int)
  a : Int
  b : Int
structure ActOk (p : ActD) : Prop where
  k0 : -9223372036854775808 ≤ p.kind
  k1 : p.kind ≤ 9223372036854775807
  a0 : -9223372036854775808 ≤ p.a
  a1 : p.a ≤ 9223372036854775807
  b0 : -9223372036854775808 ≤ p.b
  b1 : p.b ≤ 9223372036854775807
/-- one Act in memory -/
def ActAt (w : World) (a : Addr) (p : ActD) : Prop :=
  ∃ A c, w.cell? a = some (.int .i64 p.kind) ∧ w.cell? ⟨a.block, a.off + 1, none⟩ = some (.slice A p.parts.length c) ∧ w.cell? ⟨a.block, a.off + 2, none⟩ = some (.int .i64 p.a) ∧ w.cell? ⟨a.block, a.off + 3, none⟩ = some (.int .i64 p.b) ∧ PartsRd w A p.parts ∧ ActOk p
theorem PartsRd.below {w w1 : World} {A : Option Addr} {ps : List (List Int)} (h : PartsRd w A ps) (hb : Below w.heap.size w w1) : PartsRd w1 A ps :=
  ⟨h.1, fun k hk => by obtain ⟨ad, Ak, ck, h1, h2, h3, h4⟩ := h.2 k hk; exact ⟨ad, Ak, ck, h1, pw_cell_below hb h2, h3, h4.below hb⟩⟩
theorem ActAt.below {w w1 : World} {a : Addr} {p : ActD} (h : ActAt w a p) (hb : Below w.heap.size w w1) : ActAt w1 a p := by
  obtain ⟨A, c, h0, h1, h2, h3, h4, h5⟩ := h
  exact ⟨A, c, pw_cell_below hb h0, pw_cell_below hb h1, pw_cell_below hb h2, pw_cell_below hb h3, h4.below hb, h5⟩
def ActsRd (w : World) (A : Option Addr) (ps : List ActD) : Prop := ps.length ≤ 9223372036854775807 ∧ ∀ k, (hk : k < ps.length) → ∃ ad, A = some ad ∧ ActAt w (ad.add (k * 4)) ps[k]

/-- what stands all along DuctNil -/
structure Nl (w W : World) (gz gl : Nat) : Prop where
  bel : Below w.heap.size w W
  z : Zero W gz
  l : W.heap[gl]? = some (.cells #[.pointer none, .pointer (some ⟨gz, 0, none⟩)] 23 (0, 0))
theorem Nl.below {w W W' : World} {gz gl : Nat} (h : Nl w W gz gl) (hb : Below W.heap.size W W') : Nl w W' gz gl := ⟨below_step h.bel hb, (hb.block _ (blk_lt h.z)).trans h.z, (hb.block _ (blk_lt h.l)).trans h.l⟩
theorem Nl.alloc {w W : World} {gz gl : Nat} (h : Nl w W gz gl) (o : Obj) : Nl w (W.alloc o) gz gl := h.below (below_alloc (Below.refl _ _) o)
theorem Nl.at_ {w W : World} {gz gl : Nat} (h : Nl w W gz gl) (k : Nat) (hk : k < 2) : ∃ R, W.cell? ⟨gl, k, none⟩ = some R ∧ ∀ W', Nl w W' gz gl → Un R W' := by
  match k, hk with
  | 0, _ => exact ⟨_, blk_cell h.l 0, fun _ _ => .inl rfl⟩
  | 1, _ => exact ⟨_, blk_cell h.l 1, fun _ h' => .inr ⟨gz, rfl, h'.z⟩⟩

theorem Pair_nil (w : World) : Calls Try.prog 24 #[.pointer none] w fun e w' => e = .returned (.int .i64 2) ∧ w = w' := by
  go_enter Try.func24, Try.ntmps24
  go_wp2_with fail
  go_ret
  exact ⟨rfl, rfl⟩
set_option maxHeartbeats 1000000 in
theorem Pair_un0 (w : World) (g : Nat) (Q : Value) (h : w.heap[g]? = some (.cells #[.pointer none, Q] 57 (0, 0))) : Calls Try.prog 24 #[.pointer (some ⟨g, 0, none⟩)] w fun e w' => e = .returned (.int .i64 2) ∧ w = w' := by
  have q0 : w.cell? ⟨g, 0, none⟩ = some (.pointer none) := blk_cell h 0
  go_enter Try.func24, Try.ntmps24
  go_wp2_with (first | (go_at_call 25; go_must (refine (made_nil _).mono ?_); rintro e w' ⟨rfl, rfl⟩))
  go_ret
  exact ⟨rfl, rfl⟩
set_option maxHeartbeats 1000000 in
theorem Pair_un1 (w : World) (g B gd gb : Nat) (v : Value) (D : DS) (hD : Duct w B gd gb v D) (h : w.heap[g]? = some (.cells #[.pointer (some ⟨gd, 0, none⟩), .pointer none] 57 (0, 0))) : Calls Try.prog 24 #[.pointer (some ⟨g, 0, none⟩)] w fun e w' => e = .returned (.int .i64 2) ∧ w = w' := by
  have q0 : w.cell? ⟨g, 0, none⟩ = some (.pointer (some ⟨gd, 0, none⟩)) := blk_cell h 0
  have q1 : w.cell? ⟨g, 1, none⟩ = some (.pointer none) := blk_cell h 1
  replace hD := Lib.hid hD
  go_enter Try.func24, Try.ntmps24
  go_wp2_with fail
  refine (made_yes _ _ _ _ _ _ hD.out).mono ?_
  rintro e w' ⟨rfl, rfl⟩
  go_wp2_with fail
  refine (made_nil _).mono ?_
  rintro e w' ⟨rfl, rfl⟩
  go_wp2_with fail
  go_ret
  exact ⟨rfl, rfl⟩

variable (w : World)
set_option maxRecDepth 100000 in
set_option maxHeartbeats 4000000 in
theorem DuctNil_calls (A : Option Addr) (c : Nat) (ps : List ActD) (hr : ActsRd w A ps) :
    Calls Try.prog 5 #[.slice A ps.length c] w fun e w' => e = .returned (.bool true) ∧ Below w.heap.size w w' := by
  have HR := Lib.hid hr
  have hlen := hr.1
  clear hr
  go_enter Try.func5, Try.ntmps5
  go_wp2_with fail
  refine (alive_calls _).mono ?_
  rintro e w1 ⟨rfl, hb1⟩
  replace hb1 := Lib.hid hb1
  have hs1 := hb1.out.size
  go_wp2_with fail
  obtain ⟨W, hW⟩ : ∃ W, W = (w1.alloc (.cells #[.pointer none, .bool false, .int .i64 0, .int .i64 0, .int .i64 0, .int .i64 0] 51)).alloc (.cells #[.pointer none, .pointer (some ⟨w1.heap.size, 0, none⟩)] 23) := ⟨_, rfl⟩
  have hN : Nl w W w1.heap.size (w1.heap.size + 1) := by
    rw [hW]
    refine ⟨below_step (below_step hb1.out (below_alloc (Below.refl _ _) _)) (below_alloc (Below.refl _ _) _), heap_two _ _ _, ?_⟩
    have := heap_alloc_new (w1.alloc (.cells #[.pointer none, .bool false, .int .i64 0, .int .i64 0, .int .i64 0, .int .i64 0] 51)) (.cells #[.pointer none, .pointer (some ⟨w1.heap.size, 0, none⟩)] 23)
    simpa using this
  rw [← hW]
  clear hW
  go_loopw [20] (fun i wr => ∃ (k : Nat), i = .int .i64 k ∧ k ≤ 2 ∧ Hid (Nl w wr w1.heap.size (w1.heap.size + 1))) (fun i _ => 2 - (intOf i).toNat)
  case atStart => exact ⟨0, rfl, by omega, hN⟩
  case round =>
    clear hN
    obtain ⟨k, rfl, hk, hN⟩ := hrel
    by_cases hlt : k < 2
    · obtain ⟨R, hcell, hun⟩ := hN.out.at_ k hlt
      replace hun := Lib.hid hun
      have hdk : decide ((k : Int) < 2) = true := by simp; omega
      go_wp2_with fail
      obtain ⟨wo, rfl⟩ : ∃ wo : World, wo = wr := ⟨_, rfl⟩
      go_loopw [26] (fun j wj => ∃ (m : Nat), j = .int .i64 m ∧ m ≤ ps.length ∧ Hid (Nl w wj w1.heap.size (w1.heap.size + 1))) (fun j _ => ps.length - (intOf j).toNat)
      case atStart => exact ⟨0, rfl, by omega, hN⟩
      case round =>
        clear hN
        obtain ⟨m, rfl, hm, hN⟩ := hrel
        by_cases hlm : m < ps.length
        · obtain ⟨ad, rfl, hPA⟩ := HR.out.2 m hlm
          obtain ⟨A1, c1, q0, q1, q2, q3, -, hp⟩ := hPA.below hN.out.bel
          clear hPA
          obtain ⟨p, hpe⟩ : ∃ p, p = ps[m] := ⟨_, rfl⟩
          rw [← hpe] at q0 q1 q2 q3 hp
          clear hpe hp
          have hN2 := hN.out.alloc (.cells #[.int .i64 p.kind, .slice A1 p.parts.length c1, .int .i64 p.a, .int .i64 p.b] 31)
          have HU := Lib.hid (hun.out _ hN2)
          replace hN2 := Lib.hid hN2
          go_wp2_with (first
            | (go_at_call 8; go_must (refine (Write_un R _ HU.out _ _ _).mono ?_); rintro e w' ⟨rfl, rfl⟩)
            | (go_at_call 22; go_must (refine (Lose_un R _ HU.out _ _).mono ?_); rintro e w' ⟨rfl, rfl⟩)
            | (go_at_call 23; go_must (refine (Turn_un R _ HU.out _ _).mono ?_); rintro e w' ⟨rfl, rfl⟩)
            | (go_at_call 11; go_must (refine (Shut_un R _ HU.out).mono ?_); rintro e w' ⟨rfl, rfl⟩)
            | (go_at_call 10; go_must (refine (Read_un R _ HU.out _).mono ?_); rintro e w' ⟨rfl, rfl⟩)
            | (go_at_call 14; go_must (refine (Peek_un R _ HU.out _).mono ?_); rintro e w' ⟨rfl, rfl⟩)
            | (go_at_call 12; go_must (refine (Len_un R _ HU.out).mono ?_); rintro e w' ⟨rfl, rfl⟩)
            | (go_at_call 18; go_must (refine (Room_un R _ HU.out).mono ?_); rintro e w' ⟨rfl, rfl⟩)
            | (go_at_call 20; go_must (refine (Done_un R _ HU.out).mono ?_); rintro e w' ⟨rfl, rfl⟩)
            | (go_at_call 15; go_must (refine (Count_un R _ HU.out).mono ?_); rintro e w5 ⟨rfl, hb5⟩; have hN5 := Lib.hid (hN2.out.below hb5); clear hb5))
          go_roundw
          case rel => exact ⟨m + 1, by go_num, by omega, hN5⟩
          case measure => simp [intOf]; omega
        · go_wp2_with fail
          go_roundw
          case rel => exact ⟨k + 1, by go_num, by omega, hN⟩
          case measure => simp [intOf]; omega
    · clear HR
      have hbl := hN.out.bel
      replace hbl := Lib.hid hbl
      clear hN
      go_wp2_with fail
      refine (New_good 1 _ (by omega) (by omega)).mono ?_
      rintro e w2 ⟨gd, gb, v, rfl, hD, hb2⟩
      have hb3 := Lib.hid (below_step hbl.out hb2)
      have hsz3 := hb3.out.size
      clear hbl hb2
      replace hD := Lib.hid hD
      go_wp2_with fail
      refine (Pair_nil _).mono ?_
      rintro e w' ⟨rfl, rfl⟩
      go_wp2_with fail
      refine (Pair_un0 _ _ (.pointer none) (heap_alloc_new _ _)).mono ?_
      rintro e w' ⟨rfl, rfl⟩
      go_wp2_with fail
      obtain ⟨W3, hW3⟩ : ∃ W3, W3 = (w2.alloc (Obj.cells #[Value.pointer none, Value.pointer none] 57)).alloc (Obj.cells #[Value.pointer (some { block := gd, off := 0 }), Value.pointer none] 57) := ⟨_, rfl⟩
      have hg3 : W3.heap[w2.heap.size + 1]? = some (.cells #[Value.pointer (some { block := gd, off := 0 }), Value.pointer none] 57 (0, 0)) := by
        rw [hW3]
        simpa using heap_alloc_new (w2.alloc (Obj.cells #[Value.pointer none, Value.pointer none] 57)) (Obj.cells #[Value.pointer (some { block := gd, off := 0 }), Value.pointer none] 57)
      have bl3 : Below w2.heap.size w2 W3 := by rw [hW3]; exact below_step (below_alloc (Below.refl _ _) _) (below_alloc (Below.refl _ _) _)
      have hb4 := Lib.hid (below_step hb3.out bl3)
      replace hD := Lib.hid (hD.out.below bl3)
      rw [← hW3]
      clear hW3 bl3 hb3
      refine (Pair_un1 _ _ _ _ _ _ _ hD.out hg3).mono ?_
      clear hg3
      rintro e w' ⟨rfl, rfl⟩
      go_wp2_with fail
      refine (Pair_un0 _ _ _ (heap_alloc_new _ _)).mono ?_
      rintro e w' ⟨rfl, rfl⟩
      replace hD := Lib.hid (hD.out.below (below_alloc (Below.refl _ _) (Obj.cells #[Value.pointer none, Value.pointer (some { block := gd, off := 0 })] 57)))
      have hb5 := Lib.hid (below_step hb4.out (below_alloc (Below.refl _ _) (Obj.cells #[Value.pointer none, Value.pointer (some { block := gd, off := 0 })] 57)))
      clear hb4
      have eR : (if (new0 1).shut then (0 : Int) else (new0 1).room - (new0 1).held.length) = 1 := by rfl
      have hR := Room_calls _ _ _ _ _ _ hD.out
      rw [eR] at hR
      go_wp2_with fail
      refine hR.mono ?_
      clear hR
      rintro e w' ⟨rfl, kk, rfl⟩
      replace hb5 := Lib.hid (pw_below_drewN hb5.out kk)
      go_wp2_with fail
      go_ret
      exact ⟨rfl, hb5.out⟩
end Go.Proofs.Ytingiihboibcdaa.D
