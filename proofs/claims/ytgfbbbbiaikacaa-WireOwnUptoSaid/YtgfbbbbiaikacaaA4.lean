/- The contracts of the reference of layer wire, of lay and told; conditions: sizes below 2^47. -/
import Derived.Test.YtgfbbbbiaikacaaA3
namespace Go.Proofs.Ytgfbbbbiaikacaa.A
open Go.RowKit Go.Proofs.YtgfbbbbiaikacaaW.PrintWords Go.Proofs.YtgfbbbbiaikacaaW.PrintLast Go.Proofs.YtgfbbbbiaikacaaW.PrintMore

theorem Bool_calls (b : Bool) (w : World) :
    Calls Try.prog 21 #[.bool b] w fun e w' => ∃ v', e = .returned v' ∧ Own w' w.heap.size v' (boolB b) ∧ Below w.heap.size w w' := by
  cases b
  · go_enter Try.func21, Try.ntmps21
    go_wp2_with fail
    go_ret
    exact ⟨_, rfl, own_lit w w.heap.size 5 .u8 [0] (Nat.le_refl _) (by simp), below_alloc (Below.refl _ _) _⟩
  · go_enter Try.func21, Try.ntmps21
    go_wp2_with fail
    go_ret
    exact ⟨_, rfl, own_lit w w.heap.size 5 .u8 [1] (Nat.le_refl _) (by simp), below_alloc (Below.refl _ _) _⟩

theorem Text_calls (s : ByteArray) (w : World) (hs : s.size ≤ 140737488355000) :
    Calls Try.prog 31 #[.string s] w fun e w' => ∃ v', e = .returned v' ∧ Own w' w.heap.size v' (textB s) ∧ Below w.heap.size w w' := by
  have hel := enc_len s.size
  go_enter Try.func31, Try.ntmps31
  go_wp2_with (first | (go_at_call 9; go_must (refine (Uint_calls s.size _ (by omega) (by omega)).mono ?_); rintro e w1 ⟨v1, rfl, ho, hb⟩; replace ho := Lib.hid ho; replace hb := Lib.hid hb) | (at_builtin; go_must (refine appS rfl (.tmp 6) (.tmp 7) rfl v1 (enc s.size) s rfl rfl ho hb hb.out.size (by omega) ?_); intro v2 w2 ho2 hb2))
  go_ret
  exact ⟨_, rfl, ho2.out, hb2.out⟩

/-- what was made from heap size on is read, what is made behind it left alone -/
theorem own_rd {w : World} {B : Nat} {v : Value} {l : List Int} (h : Own w B v l) : ∃ A c, v = .slice A l.length c ∧ Rd w A l := own_reads h
theorem Own.below {w w1 : World} {B : Nat} {v : Value} {l : List Int} (h : Own w B v l) (hb : Below w.heap.size w w1) : Own w1 B v l := pw_own_below h hb
theorem Own.lower {w : World} {B B' : Nat} {v : Value} {l : List Int} (h : Own w B v l) (hb : B' ≤ B) : Own w B' v l := own_weaken h hb

set_option maxHeartbeats 400000 in
theorem Texts_calls (A : Option Addr) (c : Nat) (ss : List ByteArray) (w : World) (hr : RdS w A ss) (hl : bulkS ss ≤ 140737488355000) :
    Calls Try.prog 22 #[.slice A ss.length c] w fun e w' => ∃ v', e = .returned v' ∧ Own w' w.heap.size v' (textsB ss) ∧ Below w.heap.size w w' := by
  have HR := Lib.hid hr
  clear hr
  have hbl := bulk_len ss
  go_enter Try.func22, Try.ntmps22
  go_wp2_with fail
  go_loopw [3, 4] (fun v i wr => ∃ (k : Nat), i = .int .i64 k ∧ k ≤ ss.length ∧ Hid (Own wr w.heap.size v (textsB (ss.take k))) ∧ Hid (Below w.heap.size w wr)) (fun _ i _ => ss.length - (intOf i).toNat)
  case atStart => exact ⟨0, rfl, by omega, own_nil _ _ _ _, Below.refl _ _⟩
  case round =>
    obtain ⟨k, rfl, hk, hO, hB⟩ := hrel
    have hs := hB.out.size
    by_cases hlt : k < ss.length
    · have hbk := bulk_at ss k hlt
      have htl := textsB_len (ss.take k)
      obtain ⟨ad, rfl, hc⟩ := HR.out.2.2 (by omega)
      have hcell : wr.cell? (ad.add k) = some (.string (ss.getD k ByteArray.empty)) := by
        have h := hc k hlt
        exact (hB.out.cell (World.block_lt_of_cell? w _ h)).trans h
      have HT := Lib.hid (textsB_take ss k hlt)
      clear hc
      obtain ⟨s, hs⟩ : ∃ s, s = ss.getD k ByteArray.empty := ⟨_, rfl⟩
      rw [← hs] at hcell hbk HT
      clear hs
      have htb := textB_len s
      go_wp2_with (first | (go_at_call 31; go_must (refine (Text_calls s _ (by omega)).mono ?_); rintro e w1 ⟨v1, rfl, ho, hb⟩; obtain ⟨A1, c1, rfl, hr1⟩ := own_rd ho; clear ho; replace hO := Lib.hid (hO.out.below hb); replace hB := Lib.hid (below_step hB.out hb); replace hr1 := Lib.hid hr1; clear hb) | (at_builtin; go_must (refine appR rfl (.tmp 11) (.tmp 16) rfl u3 (textsB (ss.take k)) (textB s) _ _ rfl rfl hO hr1 hB hB.out.size (by omega) ?_); intro v2 w2 ho2 hb2))
      go_roundw
      case rel => exact ⟨k + 1, by go_num, by omega, by rw [HT.out]; exact ho2, hb2⟩
      case measure => simp [intOf]; omega
    · go_wp2_with fail
      go_ret
      rw [List.take_of_length_le (by omega)] at hO
      exact ⟨_, rfl, hO.out, hB.out⟩

theorem List_calls (A : Option Addr) (c : Nat) (ss : List ByteArray) (w : World) (hr : RdS w A ss) (hl : bulkS ss ≤ 140737488354000) :
    Calls Try.prog 23 #[.slice A ss.length c] w fun e w' => ∃ v', e = .returned v' ∧ Own w' w.heap.size v' (enc ss.length ++ textsB ss) ∧ Below w.heap.size w w' := by
  have HR := Lib.hid hr
  clear hr
  have hbl := bulk_len ss
  have htl := textsB_len ss
  have hel := enc_len ss.length
  go_enter Try.func23, Try.ntmps23
  go_wp2_with (first | (go_at_call 9; go_must (refine (Uint_calls ss.length _ (by omega) (by omega)).mono ?_); rintro e w1 ⟨v1, rfl, ho, hb⟩; replace ho := Lib.hid ho; replace hb := Lib.hid hb) | (go_at_call 22; go_must (refine (Texts_calls A c ss _ (HR.out.below hb.out) (by omega)).mono ?_); rintro e w2 ⟨v2, rfl, ho2, hb2⟩; obtain ⟨A2, c2, rfl, hr2⟩ := own_rd ho2; clear ho2; replace ho := Lib.hid (ho.out.below hb2); replace hb := Lib.hid (below_step hb.out hb2); replace hr2 := Lib.hid hr2; clear hb2) | (at_builtin; go_must (refine appR rfl (.tmp 6) (.tmp 8) rfl v1 (enc ss.length) (textsB ss) _ _ rfl rfl ho hr2 hb hb.out.size (by omega) ?_); intro v3 w3 ho3 hb3))
  go_ret
  exact ⟨_, rfl, ho3.out, hb3.out⟩

/-- bytes.Equal, of equal bytes -/
theorem Equal_same (A A2 : Option Addr) (c c2 : Nat) (l l2 : List Int) (w : World) (hr : Rd w A l) (hr2 : Rd w A2 l2) (he : l = l2) :
    Calls Try.prog 7 #[.slice A l.length c, .slice A2 l2.length c2] w fun e w' => e = .returned (.bool true) ∧ w = w' := by
  subst he
  have h1 : (convert 23 9 (.slice A l.length c)).run Try.prog w = _ := string_of_reads Try.underlying23 Try.underlying5 Try.underlying9 hr
  have h2 : (convert 23 9 (.slice A2 l.length c2)).run Try.prog w = _ := string_of_reads Try.underlying23 Try.underlying5 Try.underlying9 hr2
  go_enter Try.func7, Try.ntmps7
  go_wp2_with fail
  go_ret
  exact ⟨by simp, rfl⟩

theorem sw5 (kind : Int) : (wrap64 (kind.tmod 5 + 5)).tmod 5 = kind % 5 := by
  rw [Int.tmod_eq_emod, Int.tmod_eq_emod]
  unfold wrap64
  split <;> split <;> omega

structure PutD where
  kind : Int
  u : Int
  i : Int
  texts : List ByteArray
def putB (p : PutD) : List Int :=
  match p.kind % 5 with
  | 0 => enc p.u
  | 1 => enc (zig p.i)
  | 2 => boolB (p.u % 2 == 1)
  | 3 => textsB p.texts
  | _ => enc p.texts.length ++ textsB p.texts
structure PutOk (p : PutD) : Prop where
  k0 : -9223372036854775808 ≤ p.kind
  k1 : p.kind ≤ 9223372036854775807
  u0 : 0 ≤ p.u
  u1 : p.u ≤ 18446744073709551615
  i0 : -9223372036854775808 ≤ p.i
  i1 : p.i ≤ 9223372036854775807

set_option maxHeartbeats 1000000 in
theorem told_calls (p : PutD) (A : Option Addr) (c : Nat) (w : World) (hp : PutOk p) (hr : RdS w A p.texts) (hl : bulkS p.texts ≤ 140737488354000) :
    Calls Try.prog 6 #[.agg #[.int .i64 p.kind, .int .u64 p.u, .int .i64 p.i, .slice A p.texts.length c]] w fun e w' => ∃ v', e = .returned v' ∧ Own w' w.heap.size v' (putB p) ∧ Below w.heap.size w w' := by
  obtain ⟨kind, u, i, ss⟩ := p
  obtain ⟨k0, k1, u0, u1, i0, i1⟩ := hp
  have HR := Lib.hid hr
  clear hr
  dsimp only at *
  have hk := sw5 kind
  have hj : kind % 5 = 0 ∨ kind % 5 = 1 ∨ kind % 5 = 2 ∨ kind % 5 = 3 ∨ kind % 5 = 4 := by omega
  rcases hj with hj | hj | hj | hj | hj
  · have e1 : putB ⟨kind, u, i, ss⟩ = enc u := by simp only [putB, hj]
    rw [e1]
    clear e1
    rw [hj] at hk
    clear hj
    go_enter Try.func6, Try.ntmps6
    go_wp2_with (go_at_call 9; go_must (refine (Uint_calls u _ u0 u1).mono ?_); rintro e w1 ⟨v1, rfl, ho, hb⟩; replace ho := Lib.hid ho; replace hb := Lib.hid hb)
    go_ret
    exact ⟨_, rfl, ho.out.lower (by simp), below_step (below_alloc (Below.refl _ _) _) hb.out⟩
  · have e1 : putB ⟨kind, u, i, ss⟩ = enc (zig i) := by simp only [putB, hj]
    rw [e1]
    clear e1
    rw [hj] at hk
    clear hj
    go_enter Try.func6, Try.ntmps6
    go_wp2_with (go_at_call 20; go_must (refine (Int_calls i _ i0 i1).mono ?_); rintro e w1 ⟨v1, rfl, ho, hb⟩; replace ho := Lib.hid ho; replace hb := Lib.hid hb)
    go_ret
    exact ⟨_, rfl, ho.out.lower (by simp), below_step (below_alloc (Below.refl _ _) _) hb.out⟩
  · have e1 : putB ⟨kind, u, i, ss⟩ = boolB (u % 2 == 1) := by simp only [putB, hj]
    rw [e1]
    clear e1
    rw [hj] at hk
    clear hj
    go_enter Try.func6, Try.ntmps6
    go_wp2_with (go_at_call 21; go_must (refine (Bool_calls (u % 2 == 1) _).mono ?_); rintro e w1 ⟨v1, rfl, ho, hb⟩; replace ho := Lib.hid ho; replace hb := Lib.hid hb)
    go_ret
    exact ⟨_, rfl, ho.out.lower (by simp), below_step (below_alloc (Below.refl _ _) _) hb.out⟩
  · have e1 : putB ⟨kind, u, i, ss⟩ = textsB ss := by simp only [putB, hj]
    rw [e1]
    clear e1
    rw [hj] at hk
    clear hj
    go_enter Try.func6, Try.ntmps6
    go_wp2_with (go_at_call 22; go_must (refine (Texts_calls A c ss _ (HR.out.below (below_alloc (Below.refl _ _) _)) (by omega)).mono ?_); rintro e w1 ⟨v1, rfl, ho, hb⟩; replace ho := Lib.hid ho; replace hb := Lib.hid hb)
    go_ret
    exact ⟨_, rfl, ho.out.lower (by simp), below_step (below_alloc (Below.refl _ _) _) hb.out⟩
  · have e1 : putB ⟨kind, u, i, ss⟩ = enc ss.length ++ textsB ss := by simp only [putB, hj]
    rw [e1]
    clear e1
    rw [hj] at hk
    clear hj
    go_enter Try.func6, Try.ntmps6
    go_wp2_with (go_at_call 23; go_must (refine (List_calls A c ss _ (HR.out.below (below_alloc (Below.refl _ _) _)) (by omega)).mono ?_); rintro e w1 ⟨v1, rfl, ho, hb⟩; replace ho := Lib.hid ho; replace hb := Lib.hid hb)
    go_ret
    exact ⟨_, rfl, ho.out.lower (by simp), below_step (below_alloc (Below.refl _ _) _) hb.out⟩
set_option maxHeartbeats 1000000 in
theorem lay_calls (B : Option Addr) (d : Nat) (l : List Int) (p : PutD) (A : Option Addr) (c : Nat) (w : World) (hb : Rd w B l) (hp : PutOk p) (hr : RdS w A p.texts) (hl : l.length + bulkS p.texts ≤ 140737488354000) :
    Calls Try.prog 5 #[.slice B l.length d, .agg #[.int .i64 p.kind, .int .u64 p.u, .int .i64 p.i, .slice A p.texts.length c]] w fun e w' => ∃ v', e = .returned v' ∧ Own w' w.heap.size v' (l ++ putB p) ∧ Below w.heap.size w w' := by
  obtain ⟨kind, u, i, ss⟩ := p
  obtain ⟨k0, k1, u0, u1, i0, i1⟩ := hp
  have HR := Lib.hid hr
  have HB := Lib.hid hb
  clear hr hb
  dsimp only at *
  have hk := sw5 kind
  have hj : kind % 5 = 0 ∨ kind % 5 = 1 ∨ kind % 5 = 2 ∨ kind % 5 = 3 ∨ kind % 5 = 4 := by omega
  rcases hj with hj | hj | hj | hj | hj
  · have e1 : putB ⟨kind, u, i, ss⟩ = enc u := by simp only [putB, hj]
    rw [e1]
    clear e1
    rw [hj] at hk
    clear hj
    go_enter Try.func5, Try.ntmps5
    go_wp2_with (go_at_call 10; go_must (refine (PutUint_calls B d l u _ (HB.out.below (below_alloc (Below.refl _ _) _)) u0 u1 (by omega)).mono ?_); rintro e w1 ⟨v1, rfl, ho, hb⟩; replace ho := Lib.hid ho; replace hb := Lib.hid hb)
    go_ret
    exact ⟨_, rfl, ho.out.lower (by simp), below_step (below_alloc (Below.refl _ _) _) hb.out⟩
  · have e1 : putB ⟨kind, u, i, ss⟩ = enc (zig i) := by simp only [putB, hj]
    rw [e1]
    clear e1
    rw [hj] at hk
    clear hj
    go_enter Try.func5, Try.ntmps5
    go_wp2_with (go_at_call 16; go_must (refine (PutInt_calls B d l i _ (HB.out.below (below_alloc (Below.refl _ _) _)) i0 i1 (by omega)).mono ?_); rintro e w1 ⟨v1, rfl, ho, hb⟩; replace ho := Lib.hid ho; replace hb := Lib.hid hb)
    go_ret
    exact ⟨_, rfl, ho.out.lower (by simp), below_step (below_alloc (Below.refl _ _) _) hb.out⟩
  · have e1 : putB ⟨kind, u, i, ss⟩ = boolB (u % 2 == 1) := by simp only [putB, hj]
    rw [e1]
    clear e1
    rw [hj] at hk
    clear hj
    go_enter Try.func5, Try.ntmps5
    go_wp2_with (go_at_call 17; go_must (refine (PutBool_calls B d l (u % 2 == 1) _ (HB.out.below (below_alloc (Below.refl _ _) _)) (by omega)).mono ?_); rintro e w1 ⟨v1, rfl, ho, hb⟩; replace ho := Lib.hid ho; replace hb := Lib.hid hb)
    go_ret
    exact ⟨_, rfl, ho.out.lower (by simp), below_step (below_alloc (Below.refl _ _) _) hb.out⟩
  · have e1 : putB ⟨kind, u, i, ss⟩ = textsB ss := by simp only [putB, hj]
    rw [e1]
    clear e1
    rw [hj] at hk
    clear hj
    go_enter Try.func5, Try.ntmps5
    go_wp2_with (go_at_call 18; go_must (refine (PutText_calls B d l A c ss _ (HB.out.below (below_alloc (Below.refl _ _) _)) (HR.out.below (below_alloc (Below.refl _ _) _)) (by omega)).mono ?_); rintro e w1 ⟨v1, rfl, ho, hb⟩; replace ho := Lib.hid ho; replace hb := Lib.hid hb)
    go_ret
    exact ⟨_, rfl, ho.out.lower (by simp), below_step (below_alloc (Below.refl _ _) _) hb.out⟩
  · have e1 : putB ⟨kind, u, i, ss⟩ = enc ss.length ++ textsB ss := by simp only [putB, hj]
    rw [e1]
    clear e1
    rw [hj] at hk
    clear hj
    go_enter Try.func5, Try.ntmps5
    go_wp2_with (go_at_call 19; go_must (refine (PutList_calls B d l A c ss _ (HB.out.below (below_alloc (Below.refl _ _) _)) (HR.out.below (below_alloc (Below.refl _ _) _)) (by omega)).mono ?_); rintro e w1 ⟨v1, rfl, ho, hb⟩; replace ho := Lib.hid ho; replace hb := Lib.hid hb)
    go_ret
    exact ⟨_, rfl, ho.out.lower (by simp), below_step (below_alloc (Below.refl _ _) _) hb.out⟩
end Go.Proofs.Ytgfbbbbiaikacaa.A
