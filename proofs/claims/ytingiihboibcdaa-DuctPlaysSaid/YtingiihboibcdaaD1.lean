/- Words for the proofs of layer duct: rows of bytes of the call's own, what a call has changed, a duct in memory. -/
import Derived.Test.YtingiihboibcdaaPDuctOrderx0
import Derived.Lib.Hide
import Derived.Outline
import Derived.Deep.DeepMust
namespace Go.Proofs.Ytingiihboibcdaa.D
open Go.RowKit Go.Proofs.YtingiihboibcdaaW.PrintWords Go.Proofs.YtingiihboibcdaaW.PrintLast Go.Proofs.YtingiihboibcdaaW.PrintMore
theorem info5 : (Try.prog.info? 5).map (fun i => (i.zero, i.size, i.bytes)) = some (some (.int .u8 0), 1, 1) := by kernel_rfl
theorem size5 : (Try.prog.info? 5).map (·.size) = some 1 := by kernel_rfl

def Own (w : World) (base : Nat) (v : Value) (l : List Int) : Prop := w.ownsRow base 5 1 v l.length (nums .u8 l)
abbrev Rd (w : World) (A : Option Addr) (l : List Int) : Prop := ReadsInt w .u8 A l.length l
theorem own_rd {w : World} {B : Nat} {v : Value} {l : List Int} (h : Own w B v l) : ∃ A c, v = .slice A l.length c ∧ Rd w A l := own_reads h
theorem Own.below {w w1 : World} {B : Nat} {v : Value} {l : List Int} (h : Own w B v l) (hb : Below w.heap.size w w1) : Own w1 B v l := pw_own_below h hb
theorem Own.lower {w : World} {B B' : Nat} {v : Value} {l : List Int} (h : Own w B v l) (hb : B' ≤ B) : Own w B' v l := own_weaken h hb
theorem Own.drewN {w : World} {B : Nat} {v : Value} {l : List Int} (h : Own w B v l) (k : Nat) : Own (w.drewN k) B v l := h
theorem lit_rd (W : World) (l : List Int) (hl : l.length ≤ 9223372036854775807) : Rd (W.alloc (.cells (nums .u8 l).toArray 5)) (some ⟨W.heap.size, 0, none⟩) l := own_reads' (own_lit W W.heap.size 5 .u8 l (Nat.le_refl _) hl)

/-- What a call may have changed: blocks of S, and new ones. -/
structure Chg (w w' : World) (S : Nat → Prop) : Prop where
  os : w'.os = w.os
  tape : w'.tape = w.tape
  output : w'.output = w.output
  size : w.heap.size ≤ w'.heap.size
  block : ∀ k, k < w.heap.size → ¬ S k → w'.heap[k]? = w.heap[k]?
theorem Chg.refl (w : World) (S : Nat → Prop) : Chg w w S := ⟨rfl, rfl, rfl, Nat.le_refl _, fun _ _ _ => rfl⟩
theorem Chg.trans {w w1 w2 : World} {S S1 : Nat → Prop} (h : Chg w w1 S) (k : Chg w1 w2 S1) (hs : ∀ q, q < w.heap.size → S1 q → S q) : Chg w w2 S :=
  ⟨k.os.trans h.os, k.tape.trans h.tape, k.output.trans h.output, Nat.le_trans h.size k.size, fun q hq hn => (k.block q (Nat.lt_of_lt_of_le hq h.size) (fun h1 => hn (hs q hq h1))).trans (h.block q hq hn)⟩
theorem Chg.mono {w w1 : World} {S S1 : Nat → Prop} (h : Chg w w1 S) (hs : ∀ q, q < w.heap.size → S q → S1 q) : Chg w w1 S1 :=
  ⟨h.os, h.tape, h.output, h.size, fun q hq hn => h.block q hq (fun h1 => hn (hs q hq h1))⟩
theorem Chg.of_below {w w1 : World} (h : Below w.heap.size w w1) (S : Nat → Prop) : Chg w w1 S := ⟨h.os, h.tape, h.output, h.size, fun q hq _ => h.block q hq⟩
theorem Chg.of_grown {w w1 : World} {r : Option Nat} (h : w.grownBy w1 r) : Chg w w1 (fun k => some k = r) := ⟨h.os, h.tape, h.output, h.size, fun q hq hn => h.block q hq hn⟩
theorem Chg.drewN {w w1 : World} {S : Nat → Prop} (h : Chg w w1 S) (k : Nat) : Chg w (w1.drewN k) S := ⟨h.os, h.tape, h.output, h.size, h.block⟩
theorem Chg.alloc {w w1 : World} {S : Nat → Prop} (h : Chg w w1 S) (o : Obj) : Chg w (w1.alloc o) S := h.trans (Chg.of_below (below_alloc (Below.refl _ _) o) (fun _ => False)) (fun _ _ h => h.elim)
theorem Chg.set_ {w w1 : World} {S : Nat → Prop} (h : Chg w w1 S) {p : Addr} (hp : S p.block) (u : Value) : Chg w (w1.setCell p u) S :=
  ⟨h.os, h.tape, h.output, by simpa [World.setCell] using h.size, fun q hq hn => by rw [Below.heap_setCell _ _ _ _ (fun e => hn (by rw [e]; exact hp))]; exact h.block q hq hn⟩
/-- seen from elder blocks nothing has changed -/
theorem Chg.below {w w1 : World} {S : Nat → Prop} (h : Chg w w1 S) {B : Nat} (hB : B ≤ w.heap.size) (hs : ∀ q, S q → B ≤ q) : Below B w w1 :=
  ⟨h.os, h.tape, h.output, h.size, fun q hq => h.block q (Nat.lt_of_lt_of_le hq hB) (fun h1 => by have := hs q h1; omega)⟩
theorem Chg.blk {w w1 : World} {S : Nat → Prop} (h : Chg w w1 S) {g : Nat} {o : Obj} (hb : w.heap[g]? = some o) (hn : ¬ S g) : w1.heap[g]? = some o := (h.block g (blk_lt hb) hn).trans hb
theorem Chg.own {w w1 : World} {S : Nat → Prop} (h : Chg w w1 S) {B : Nat} {v : Value} {l : List Int} (ho : Own w B v l) (hn : ∀ k, v.ownBlock = some k → ¬ S k) : Own w1 B v l :=
  own_move ho (fun k hk => h.block k (own_lt ho k hk) (hn k hk))
/-- a row's block is the elder one's, or new -/
def Nx (W : World) (v v' : Value) : Prop := ∀ k, v'.ownBlock = some k → v.ownBlock = some k ∨ W.heap.size ≤ k
theorem Nx.refl (W : World) (v : Value) : Nx W v v := fun _ h => .inl h
theorem Nx.new {W W1 : World} {v v' : Value} {l : List Int} {B : Nat} (h : Own W1 B v' l) (hB : W.heap.size ≤ B) : Nx W v v' := fun k hk => .inr (Nat.le_trans hB (own_base h k hk))

/-- a duct's state -/
structure DS where
  room : Int
  held : List Int
  shut : Bool
  ci : Int
  co : Int
  ct : Int
  cl : Int
structure DOk (D : DS) : Prop where
  r0 : 1 ≤ D.room
  r1 : D.room ≤ 4194304
  h1 : (D.held.length : Int) ≤ D.room
  ci0 : 0 ≤ D.ci
  ci1 : D.ci ≤ 9223372036854775807
  co0 : 0 ≤ D.co
  co1 : D.co ≤ 9223372036854775807
  ct0 : 0 ≤ D.ct
  ct1 : D.ct ≤ 9223372036854775807
  cl0 : 0 ≤ D.cl
  cl1 : D.cl ≤ 9223372036854775807
/-- a duct in memory: its block, its bytes' block, the row -/
structure Duct (w : World) (B gd gb : Nat) (v : Value) (D : DS) : Prop where
  d : w.heap[gd]? = some (.cells #[.pointer (some ⟨gb, 0, none⟩), .bool D.shut, .int .i64 D.ci, .int .i64 D.co, .int .i64 D.ct, .int .i64 D.cl] 51 (0, 0))
  b : w.heap[gb]? = some (.cells #[v, .int .i64 D.room] 60 (0, 0))
  o : Own w B v D.held
  bd : B ≤ gd
  bb : B ≤ gb
  ok : DOk D
/-- what a call on a duct may change -/
def FD (gd gb : Nat) (v : Value) (k : Nat) : Prop := k = gd ∨ k = gb ∨ v.ownBlock = some k
section
variable {w w1 : World} {B gd gb : Nat} {v : Value} {D : DS}
theorem Duct.dcells (h : Duct w B gd gb v D) : w.cell? ⟨gd, 0, none⟩ = some (.pointer (some ⟨gb, 0, none⟩)) ∧ w.cell? ⟨gd, 1, none⟩ = some (.bool D.shut) ∧ w.cell? ⟨gd, 2, none⟩ = some (.int .i64 D.ci) ∧ w.cell? ⟨gd, 3, none⟩ = some (.int .i64 D.co) ∧ w.cell? ⟨gd, 4, none⟩ = some (.int .i64 D.ct) ∧ w.cell? ⟨gd, 5, none⟩ = some (.int .i64 D.cl) :=
  ⟨blk_cell h.d 0, blk_cell h.d 1, blk_cell h.d 2, blk_cell h.d 3, blk_cell h.d 4, blk_cell h.d 5⟩
theorem Duct.bcells (h : Duct w B gd gb v D) : w.cell? ⟨gb, 0, none⟩ = some v ∧ w.cell? ⟨gb, 1, none⟩ = some (.int .i64 D.room) := ⟨blk_cell h.b 0, blk_cell h.b 1⟩
theorem Duct.drewN (h : Duct w B gd gb v D) (k : Nat) : Duct (w.drewN k) B gd gb v D := ⟨h.d, h.b, h.o, h.bd, h.bb, h.ok⟩
theorem Duct.chg {S : Nat → Prop} (h : Duct w B gd gb v D) (hc : Chg w w1 S) (hn : ∀ k, FD gd gb v k → ¬ S k) : Duct w1 B gd gb v D :=
  ⟨hc.blk h.d (hn _ (.inl rfl)), hc.blk h.b (hn _ (.inr (.inl rfl))), hc.own h.o (fun k hk => hn k (.inr (.inr hk))), h.bd, h.bb, h.ok⟩
theorem Duct.below (h : Duct w B gd gb v D) (hb : Below w.heap.size w w1) : Duct w1 B gd gb v D := h.chg (Chg.of_below hb (fun _ => False)) (fun _ _ h => h)
theorem Duct.fd (h : Duct w B gd gb v D) : ∀ k, FD gd gb v k → B ≤ k ∧ k < w.heap.size := by
  rintro k (rfl | rfl | hk)
  · exact ⟨h.bd, blk_lt h.d⟩
  · exact ⟨h.bb, blk_lt h.b⟩
  · exact ⟨own_base h.o k hk, own_lt h.o k hk⟩
theorem Duct.slice (h : Duct w B gd gb v D) : ∃ A c, v = .slice A D.held.length c ∧ Rd w A D.held := own_rd h.o
theorem Duct.ne (h : Duct w B gd gb v D) : gd ≠ gb := blk_ne h.d h.b (by decide)
theorem Duct.ned (h : Duct w B gd gb v D) : some gd ≠ v.ownBlock := own_ne h.o h.d (by decide)
theorem Duct.neb (h : Duct w B gd gb v D) : some gb ≠ v.ownBlock := own_ne h.o h.b (by decide)
end

/-- made: of a duct that New gave, of none, of an empty struct -/
theorem made_yes (B gd gb : Nat) (v : Value) (D : DS) (w : World) (h : Duct w B gd gb v D) :
    Calls Try.prog 25 #[.pointer (some ⟨gd, 0, none⟩)] w fun e w' => e = .returned (.bool true) ∧ w = w' := by
  obtain ⟨q0, _, _, _, _, _⟩ := h.dcells
  clear h
  go_enter Try.func25, Try.ntmps25
  go_wp2_with fail
  go_ret
  exact ⟨rfl, rfl⟩
theorem made_nil (w : World) : Calls Try.prog 25 #[.pointer none] w fun e w' => e = .returned (.bool false) ∧ w = w' := by
  go_enter Try.func25, Try.ntmps25
  go_wp2_with fail
  go_ret
  exact ⟨rfl, rfl⟩
theorem made_no (gd : Nat) (w : World) (h : w.cell? ⟨gd, 0, none⟩ = some (.pointer none)) : Calls Try.prog 25 #[.pointer (some ⟨gd, 0, none⟩)] w fun e w' => e = .returned (.bool false) ∧ w = w' := by
  go_enter Try.func25, Try.ntmps25
  go_wp2_with fail
  go_ret
  exact ⟨rfl, rfl⟩

/-- New -/
def new0 (room : Int) : DS := ⟨room, [], false, 0, 0, 0, 0⟩
theorem New_bad (room : Int) (w : World) (h : room < 1 ∨ 4194304 < room) :
    Calls Try.prog 6 #[.int .i64 room] w fun e w' => e = .returned (.tuple #[.pointer none, .int .i64 90]) ∧ w = w' := by
  rcases h with h | h
  · go_enter Try.func6, Try.ntmps6
    go_wp2_with fail
    go_ret2
    exact ⟨rfl, rfl⟩
  · have h1 : ¬ room < 1 := by omega
    go_enter Try.func6, Try.ntmps6
    go_wp2_with fail
    go_ret2
    exact ⟨rfl, rfl⟩
theorem New_good (room : Int) (w : World) (h : 1 ≤ room) (h2 : room ≤ 4194304) :
    Calls Try.prog 6 #[.int .i64 room] w fun e w' => ∃ gd gb v, e = .returned (.tuple #[.pointer (some ⟨gd, 0, none⟩), .int .i64 0]) ∧ Duct w' w.heap.size gd gb v (new0 room) ∧ Below w.heap.size w w' := by
  go_enter Try.func6, Try.ntmps6
  go_wp2_with fail
  go_ret2
  refine ⟨_, w.heap.size, .slice none 0 0, rfl, ⟨?_, ?_, own_nil _ _ _ _, by simp, by simp, ⟨h, h2, by simp [new0]; omega, by simp [new0], by simp [new0], by simp [new0], by simp [new0], by simp [new0], by simp [new0], by simp [new0], by simp [new0]⟩⟩, ((Below.refl _ _).alloc (Nat.le_refl _) _).alloc (by simp) _⟩
  · simpa [new0] using heap_alloc_new (w.alloc (.cells #[.slice none 0 0, .int .i64 room] 60)) _
  · rw [Below.heap_alloc _ _ _ (by simp)]
    simpa [new0] using heap_alloc_new w (.cells #[.slice none 0 0, .int .i64 room] 60)
end Go.Proofs.Ytingiihboibcdaa.D
