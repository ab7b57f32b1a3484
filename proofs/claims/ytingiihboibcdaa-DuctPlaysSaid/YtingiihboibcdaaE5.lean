/- What stands along the law DuctOrder, in memory and as lists. -/
import Derived.Test.YtingiihboibcdaaE2
import Derived.Test.YtingiihboibcdaaE4
namespace Go.Proofs.Ytingiihboibcdaa.D
open Go.RowKit Go.Proofs.YtingiihboibcdaaW.PrintWords Go.Proofs.YtingiihboibcdaaW.PrintLast Go.Proofs.YtingiihboibcdaaW.PrintMore

structure OM (w W : World) (gd gb : Nat) (v : Value) (D : DS) (vi : Value) (inn : List Int) (vo : Value) (out : List Int) : Prop where
  bel : Below w.heap.size w W
  d : Duct W w.heap.size gd gb v D
  i : Own W w.heap.size vi inn
  o : Own W w.heap.size vo out
  di : ∀ k, FD gd gb v k → vi.ownBlock ≠ some k
  do_ : ∀ k, FD gd gb v k → vo.ownBlock ≠ some k
  io : ∀ k, vi.ownBlock = some k → vo.ownBlock ≠ some k
section
variable {w W W1 : World} {gd gb : Nat} {v v1 : Value} {D D1 : DS} {vi vo vi1 vo1 : Value} {inn out inn1 out1 : List Int}
theorem OM.below (h : OM w W gd gb v D vi inn vo out) (hb : Below W.heap.size W W1) : OM w W1 gd gb v D vi inn vo out :=
  ⟨below_step h.bel hb, h.d.below hb, h.i.below hb, h.o.below hb, h.di, h.do_, h.io⟩
theorem OM.duct (h : OM w W gd gb v D vi inn vo out) (hD : Duct W1 w.heap.size gd gb v1 D1) (hn : Nx W v v1) (hc : Chg W W1 (FD gd gb v)) : OM w W1 gd gb v1 D1 vi inn vo out :=
  ⟨h.bel.trans (hc.below h.bel.size (fun q hq => (h.d.fd q hq).1)), hD, hc.own h.i (fun k hk hf => h.di k hf hk), hc.own h.o (fun k hk hf => h.do_ k hf hk),
    fun k hf hk => h.di k (FD.nx hn k (own_lt h.i k hk) hf) hk, fun k hf hk => h.do_ k (FD.nx hn k (own_lt h.o k hk) hf) hk, h.io⟩
theorem OM.toI (h : OM w W gd gb v D vi inn vo out) (ho : Own W1 w.heap.size vi1 inn1) (hg : W.grownBy W1 vi.ownBlock) (hn : Nx W vi vi1) : OM w W1 gd gb v D vi1 inn1 vo out :=
  have hc := Chg.of_grown hg
  ⟨h.bel.trans (hc.below h.bel.size (fun q hq => own_base h.i q hq.symm)), h.d.chg hc (fun k hf hk => h.di k hf hk.symm), ho, hc.own h.o (fun k hk hf => h.io k hf.symm hk),
    fun k hf hk => (hn k hk).elim (fun h1 => h.di k hf h1) (fun h1 => by have := (h.d.fd k hf).2; omega), h.do_, fun k hk hko => (hn k hk).elim (fun h1 => h.io k h1 hko) (fun h1 => by have := own_lt h.o k hko; omega)⟩
theorem OM.toO (h : OM w W gd gb v D vi inn vo out) (ho : Own W1 w.heap.size vo1 out1) (hg : W.grownBy W1 vo.ownBlock) (hn : Nx W vo vo1) : OM w W1 gd gb v D vi inn vo1 out1 :=
  have hc := Chg.of_grown hg
  ⟨h.bel.trans (hc.below h.bel.size (fun q hq => own_base h.o q hq.symm)), h.d.chg hc (fun k hf hk => h.do_ k hf hk.symm), hc.own h.i (fun k hk hf => h.io k hk hf.symm), ho,
    h.di, fun k hf hk => (hn k hk).elim (fun h1 => h.do_ k hf h1) (fun h1 => by have := (h.d.fd k hf).2; omega), fun k hk hko => (hn k hko).elim (fun h1 => h.io k hk h1) (fun h1 => by have := own_lt h.i k hk; omega)⟩
end

/-- what a duct has kept -/
structure OL (room : Int) (D : DS) (inn out : List Int) : Prop where
  law : inn = out ++ D.held
  ci : D.ci = inn.length
  co : D.co = out.length
  ct : D.ct = 0
  cl : D.cl = 0
  rm : D.room = room
theorem fill_take (room : Int) (ps : List (List Int)) : ∀ held : List Int, (held.length : Int) ≤ room → fill room held ps = held ++ ps.flatten.take (room - held.length).toNat := by
  induction ps with
  | nil => intro held _; simp [fill]
  | cons p r ih =>
    intro held hl
    have h1 : (held ++ p.take (room - held.length).toNat).length ≤ room := by rw [List.length_append, List.length_take]; omega
    rw [fill, ih _ h1, List.flatten_cons, List.take_append, List.append_assoc]
    congr 2
    rw [List.length_append, List.length_take]
    congr 1
    omega
theorem OL.write {room : Int} {D : DS} {inn out : List Int} (h : OL room D inn out) (hk : (D.held.length : Int) ≤ D.room) (ps : List (List Int)) :
    ∃ n : Nat, ((fill D.room D.held ps).length : Int) - D.held.length = n ∧ n ≤ ps.flatten.length ∧ OL room (writeD D ps) (inn ++ ps.flatten.take n) out := by
  have hf := fill_take D.room ps D.held hk
  have hl : (fill D.room D.held ps).length = D.held.length + (ps.flatten.take (D.room - D.held.length).toNat).length := by rw [hf, List.length_append]
  refine ⟨(ps.flatten.take (D.room - D.held.length).toNat).length, by rw [hl]; omega, by rw [List.length_take]; omega, ?_⟩
  have ht : ps.flatten.take (ps.flatten.take (D.room - D.held.length).toNat).length = ps.flatten.take (D.room - D.held.length).toNat := by
    rw [List.length_take]
    rcases Nat.le_total (D.room - D.held.length).toNat ps.flatten.length with h1 | h1
    · rw [Nat.min_eq_left h1]
    · rw [Nat.min_eq_right h1, List.take_length, List.take_of_length_le h1]
  rw [ht]
  refine ⟨?_, ?_, h.co, h.ct, h.cl, h.rm⟩
  · show _ = out ++ fill D.room D.held ps
    rw [hf, h.law, List.append_assoc]
  · show D.ci + ((fill D.room D.held ps).length - D.held.length) = _
    rw [hl, h.ci, List.length_append]
    omega
theorem OL.read {room : Int} {D : DS} {inn out : List Int} (h : OL room D inn out) (n : Int) : OL room (readD D n) inn (out ++ D.held.take (firstN D n)) := by
  have hk := firstN_le D n
  refine ⟨?_, h.ci, ?_, h.ct, h.cl, h.rm⟩
  · show _ = _ ++ D.held.drop (firstN D n)
    rw [List.append_assoc, List.take_append_drop, h.law]
  · show D.co + firstN D n = _
    rw [h.co, List.length_append, List.length_take, Nat.min_eq_left hk]
    omega
theorem OL.shut {room : Int} {D : DS} {inn out : List Int} (h : OL room D inn out) : OL room { D with shut := true } inn out := ⟨h.law, h.ci, h.co, h.ct, h.cl, h.rm⟩
theorem flat_bulk (ps : List (List Int)) : ps.flatten.length = bulkR ps := by
  induction ps with
  | nil => rfl
  | cons p r ih => simp only [List.flatten_cons, List.length_append, bulkR, ih]

/-- one Act in memory, with what bytes.Join asks -/
def ActX (w : World) (a : Addr) (p : ActD) : Prop :=
  ∃ A c, w.cell? a = some (.int .i64 p.kind) ∧ w.cell? ⟨a.block, a.off + 1, none⟩ = some (.slice A p.parts.length c) ∧ w.cell? ⟨a.block, a.off + 2, none⟩ = some (.int .i64 p.a) ∧ w.cell? ⟨a.block, a.off + 3, none⟩ = some (.int .i64 p.b) ∧ PartsRd w A p.parts ∧ ActOk p ∧ p.parts.length ≤ c ∧ c ≤ 9223372036854775807 ∧ ∀ q ∈ p.parts, BytesOk q
theorem ActX.below {w w1 : World} {a : Addr} {p : ActD} (h : ActX w a p) (hb : Below w.heap.size w w1) : ActX w1 a p := by
  obtain ⟨A, c, h0, h1, h2, h3, h4, h5⟩ := h
  exact ⟨A, c, pw_cell_below hb h0, pw_cell_below hb h1, pw_cell_below hb h2, pw_cell_below hb h3, h4.below hb, h5⟩
def ActsX (w : World) (A : Option Addr) (ps : List ActD) : Prop := ps.length ≤ 9223372036854775807 ∧ ∀ k, (hk : k < ps.length) → ∃ ad, A = some ad ∧ ActX w (ad.add (k * 4)) ps[k]
theorem bulk_take (ps : List ActD) (k : Nat) (hk : k < ps.length) : bulkD (ps.take (k + 1)) = bulkD (ps.take k) + bulkR ps[k].parts + 1 := by
  rw [List.take_succ_eq_append_getElem hk, bulkD_append]
  simp only [bulkD]
  omega
theorem bulk_take_le (ps : List ActD) (k : Nat) : bulkD (ps.take k) ≤ bulkD ps := by
  conv => rhs; rw [← List.take_append_drop k ps, bulkD_append]
  omega

/-- Write, shut or not -/
def wroteN (D : DS) (ps : List (List Int)) : Int := if D.shut then 0 else (fill D.room D.held ps).length - D.held.length
def wroteD (D : DS) (ps : List (List Int)) : DS := if D.shut then D else writeD D ps
theorem Write_any (w W : World) (gd gb : Nat) (v : Value) (D : DS) (A0 : Option Addr) (c0 : Nat) (ps : List (List Int)) (h : Duct W w.heap.size gd gb v D) (hb : Below w.heap.size w W) (hci : D.ci + 4194304 ≤ 9223372036854775807) (hp : PartsRd w A0 ps) :
    Calls Try.prog 8 #[.pointer (some ⟨gd, 0, none⟩), .slice A0 ps.length c0] W fun e w' => ∃ err, e = .returned (.tuple #[.int .i64 (wroteN D ps), .int .i64 err]) ∧ err = (if D.shut then 91 else 0) ∧ ∃ v1, Duct w' w.heap.size gd gb v1 (wroteD D ps) ∧ Nx W v v1 ∧ Chg W w' (FD gd gb v) := by
  cases hs : D.shut
  · refine (Write_calls w.heap.size gd gb v D W A0 c0 ps h hs hci (fun W' hc => hp.below (hb.trans (hc.below hb.size (fun q hq => (h.fd q hq).1))))).mono ?_
    rintro e w' ⟨rfl, v1, h1, h2, h3⟩
    exact ⟨_, by simp only [wroteN, hs]; rfl, rfl, v1, by simpa [wroteD, hs] using h1, h2, h3⟩
  · refine (Write_shut w.heap.size gd gb v D W A0 ps.length c0 h hs).mono ?_
    rintro e w' ⟨rfl, rfl⟩
    exact ⟨_, by simp only [wroteN, hs]; rfl, rfl, v, by simpa [wroteD, hs] using h, Nx.refl _ _, Chg.refl _ _⟩
theorem OL.wrote {room : Int} {D : DS} {inn out : List Int} (h : OL room D inn out) (hk : (D.held.length : Int) ≤ D.room) (ps : List (List Int)) :
    ∃ n : Nat, wroteN D ps = n ∧ n ≤ ps.flatten.length ∧ OL room (wroteD D ps) (inn ++ ps.flatten.take n) out := by
  cases hs : D.shut
  · obtain ⟨n, h1, h2, h3⟩ := h.write hk ps
    exact ⟨n, by simpa [wroteN, hs] using h1, h2, by simpa [wroteD, hs] using h3⟩
  · exact ⟨0, by simp [wroteN, hs], Nat.zero_le _, by simpa [wroteD, hs] using h⟩
theorem Shut_any (w W : World) (gd gb : Nat) (v : Value) (D : DS) (h : Duct W w.heap.size gd gb v D) :
    Calls Try.prog 11 #[.pointer (some ⟨gd, 0, none⟩)] W fun e w' => ∃ err, e = .returned (.int .i64 err) ∧ err = (if D.shut then 91 else 0) ∧ Duct w' w.heap.size gd gb v { D with shut := true } ∧ Chg W w' (FD gd gb v) := by
  cases hs : D.shut
  · refine (Shut_yes w.heap.size gd gb v D W h hs).mono ?_
    rintro e w' ⟨rfl, h1, h2⟩
    exact ⟨_, rfl, rfl, h1, h2⟩
  · refine (Shut_no w.heap.size gd gb v D W h hs).mono ?_
    rintro e w' ⟨rfl, rfl⟩
    have e : ({ D with shut := true } : DS) = D := by cases D; simp_all
    exact ⟨_, rfl, rfl, by rw [e]; exact h, Chg.refl _ _⟩
/-- bytes.Equal of two rows that read alike -/
theorem Equal_same (w : World) (A1 A2 : Option Addr) (c1 c2 : Nat) (l : List Int) (h1 : Rd w A1 l) (h2 : Rd w A2 l) :
    Calls Try.prog 13 #[.slice A1 l.length c1, .slice A2 l.length c2] w fun e w' => e = .returned (.bool true) ∧ w = w' := by
  have k1 : (convert 28 9 (.slice A1 l.length c1)).run Try.prog w = .ok (.string (strOfNums l)) w := string_of_reads Try.underlying28 Try.underlying5 Try.underlying9 h1
  have k2 : (convert 28 9 (.slice A2 l.length c2)).run Try.prog w = .ok (.string (strOfNums l)) w := string_of_reads Try.underlying28 Try.underlying5 Try.underlying9 h2
  clear h1 h2
  go_enter Try.func13, Try.ntmps13
  go_wp2_with fail
  go_ret
  exact ⟨by simp, rfl⟩
section
variable {ops : Array Oper} {rest : List Oper} {o : Oper} {a : Act} {Q : Exit → Act → World → Prop}
/-- append(v, ys...) as one step of a list of operations, guarded or not, where its run is known -/
theorem list_run {W W1 : World} {v u v1 : Value} (hw : Region.wanted o (yielded ops a.tmps) = true) (s x : Operand) (ho : o.op = .call { callee := .builtin .append, args := #[s, x], argTypes := #[28, 28] })
    (hs : a.eval s = v) (hx : a.eval x = u) (hr : (Builtin.append_ #[28, 28] o.type #[v, u]).run Try.prog W = .ok v1 W1)
    (h : wpList Try.prog ops Q rest (a.put o.dst v1) W1) :
    wpList Try.prog ops Q (o :: rest) a W := by
  refine wpList_step fun K' hK => ?_
  rw [if_pos hw]
  unfold Oper.wp execOp
  simp only [ho, resolve, invoke, builtin, Sem.run_bind, Sem.run_pure, Result.andThen_ok, List.map_toArray, List.map_cons, List.map_nil, hs, hx, hr]
  exact hK _ _ h
end
end Go.Proofs.Ytingiihboibcdaa.D
