/- Lists of whole numbers of the call's own, beside a memo. -/
import Derived.Test.YtecgbhiebaiokaaH16
import Derived.Test.YtecgbhiebaiokaaG2
namespace Go.Proofs.Ytecgbhiebaiokaa.G
open Go.RowKit Go.Proofs.YtecgbhiebaiokaaW.PrintWords Go.Proofs.YtecgbhiebaiokaaW.PrintLast Go.Proofs.YtecgbhiebaiokaaW.PrintMore
theorem info3 : (Try.prog.info? 3).map (fun i => (i.zero, i.size, i.bytes)) = some (some (.int .i64 0), 1, 8) := by kernel_rfl
def Own (w : World) (base : Nat) (v : Value) (l : List Int) : Prop := w.ownsRow base 3 1 v l.length (nums .i64 l)
theorem own_rd {w : World} {B : Nat} {v : Value} {l : List Int} (h : Own w B v l) : ∃ A c, v = .slice A l.length c ∧ KeysRd w A l := own_reads h
theorem Own.below {w w1 : World} {B : Nat} {v : Value} {l : List Int} (h : Own w B v l) (hb : Below w.heap.size w w1) : Own w1 B v l := pw_own_below h hb
theorem Own.chg {w w1 : World} {B : Nat} {v : Value} {l : List Int} {S : Nat → Prop} (h : Own w B v l) (hc : Chg w w1 S) (hn : ∀ k, v.ownBlock = some k → ¬ S k) : Own w1 B v l := by
  obtain ⟨hl, h1 | ⟨g, cap, cur, rfl, hb, hh, hr⟩⟩ := h
  · exact ⟨hl, .inl h1⟩
  · exact ⟨hl, .inr ⟨g, cap, cur, rfl, hb, hc.blk hh (hn g rfl), hr⟩⟩
theorem Own.apart {w : World} {B B' gm gb : Nat} {v : Value} {l : List Int} {most h m g : Int} {L : List (Ent Int)} (ho : Own w B v l) (hM : Memo ktI w B' gm gb most h m g L) : ∀ q, FM gm gb L q → v.ownBlock ≠ some q := by
  rintro q (rfl | rfl | ⟨e, he, rfl⟩) hv
  · exact own_ne ho hM.ch.mem (by decide) hv.symm
  · obtain ⟨-, ⟨rfl, -⟩ | ⟨g', cap, cur, rfl, -, hh, -⟩⟩ := ho
    · simp [Value.ownBlock] at hv
    · have : g' = q := by simpa [Value.ownBlock] using hv
      exact hM.mp.ne hh this
  · obtain ⟨j, hj, rfl⟩ := List.getElem_of_mem he
    exact own_ne ho (hM.ch.row j hj) (by decide) hv.symm
section
variable {ops : Array Oper} {rest : List Oper} {o : Oper} {a : Act} {Q : Exit → Act → World → Prop}
/-- append(v, y), v of the call's own. -/
theorem app1 {w0 W : World} {B : Nat} (hgd : o.guard = none) (s x : Operand) (ho : o.op = .call { callee := .builtin .append, args := #[s, x], argTypes := #[28, 28] })
    (v : Value) (xs : List Int) (y : Int) (hs : a.eval s = v) (hx : a.eval x = .slice (some ⟨W.heap.size, 0, none⟩) 1 1)
    (HO : Hid (Own W B v xs)) (HB : Hid (Below B w0 W)) (hbase : B ≤ W.heap.size) (hl : xs.length + 1 ≤ 10000000000000)
    (h : ∀ v1 w1, Hid (Own w1 B v1 (xs ++ [y])) → Hid (Below B w0 w1) → Hid (W.grownBy w1 v.ownBlock) → wpList Try.prog ops Q rest (a.put o.dst v1) w1) :
    wpList Try.prog ops Q (o :: rest) a (W.alloc (.cells #[.int .i64 y] 3)) :=
  print_append_num B hgd s x 28 3 .i64 8 ho Try.underlying28 info3 (by omega) v xs y hs hx HO.out HB.out hbase (by omega) (fun v1 w1 h1 h2 h3 _ => h v1 w1 h1 h2 h3)
end
/-- a memo, and a list of the call's own beside it -/
structure Side (w0 W : World) (gm gb : Nat) (a h m g : Int) (L : List (Ent Int)) (v : Value) (O : List Int) : Prop where
  me : Memo ktI W w0.heap.size gm gb a h m g L
  ow : Own W w0.heap.size v O
  bel : Below w0.heap.size w0 W
section
variable {w0 W W1 : World} {gm gb : Nat} {a h m g : Int} {L : List (Ent Int)} {v : Value} {O : List Int}
theorem Side.thin (s : Side w0 W gm gb a h m g L v O) (hb : Below W.heap.size W W1) : Side w0 W1 gm gb a h m g L v O := ⟨s.me.below hb, s.ow.below hb, below_step s.bel hb⟩
theorem Side.step (s : Side w0 W gm gb a h m g L v O) {h' m' g' : Int} {L' : List (Ent Int)} {M : KV} (hs : Step W W1 w0.heap.size gm gb a h' m' g' L L' M) : Side w0 W1 gm gb a h' m' g' L' v O :=
  ⟨hs.me, s.ow.chg hs.ch (fun k hk hf => s.ow.apart s.me k hf hk), Chg.old s.me hs.ch s.bel s.bel.size⟩
theorem Side.grow (s : Side w0 W gm gb a h m g L v O) {v1 : Value} {O1 : List Int} (ho : Own W1 w0.heap.size v1 O1) (hb : Below w0.heap.size w0 W1) (hg : W.grownBy W1 v.ownBlock) : Side w0 W1 gm gb a h m g L v1 O1 :=
  ⟨s.me.chg (Chg.of_grown hg) (fun q hq he => s.ow.apart s.me q hq he.symm), ho, hb⟩
end
end Go.Proofs.Ytecgbhiebaiokaa.G
