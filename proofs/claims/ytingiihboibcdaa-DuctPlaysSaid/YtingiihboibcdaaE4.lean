/- The contract of bytes.Join with no separator, over rows of numbers. -/
import Derived.Test.YtingiihboibcdaaE3
namespace Go.Proofs.Ytingiihboibcdaa.D
open Go.RowKit Go.Lib Go.Proofs.YtingiihboibcdaaW.PrintWords Go.Proofs.YtingiihboibcdaaW.PrintLast Go.Proofs.YtingiihboibcdaaW.PrintMore

def BytesOk (l : List Int) : Prop := ∀ x ∈ l, 0 ≤ x ∧ x < 256
theorem numsL_bytesOf (l : List Int) (h : BytesOk l) : numsL (Lib.bytesOf l) = l := by
  unfold numsL Lib.bytesOf
  rw [List.map_map]
  conv => rhs; rw [← List.map_id l]
  apply List.map_congr_left
  intro x hx
  obtain ⟨h0, h1⟩ := h x hx
  simp
  omega
theorem bytesOf_length (l : List Int) : (Lib.bytesOf l).length = l.length := by simp [Lib.bytesOf]
theorem join_flat (ls : List (List UInt8)) : Lib.join ls [] = ls.flatten := by
  cases ls with
  | nil => rfl
  | cons x r => rw [Lib.join_cons]; simp [Lib.joinTail]
theorem numsL_flat (ps : List (List Int)) (h : ∀ p ∈ ps, BytesOk p) : numsL (ps.map Lib.bytesOf).flatten = ps.flatten := by
  induction ps with
  | nil => rfl
  | cons p r ih =>
    have h1 := numsL_bytesOf p (h p (by simp))
    have h2 := ih (fun q hq => h q (by simp [hq]))
    simp only [List.map_cons, List.flatten_cons]
    unfold numsL at h1 h2 ⊢
    rw [List.map_append, h1, h2]
theorem fresh_rd {B : Nat} {w : World} {v : Value} {l : List UInt8} (h : FreshBytes B w v l) : ∃ (A : Option Addr) (c : Nat), v = .slice A (numsL l).length c ∧ (numsL l).length ≤ c ∧ Rd w A (numsL l) := by
  obtain ⟨g, cap, zs, rfl, _, hlc, hcm, hzl, hzr, hzb, hc, _⟩ := h
  have hnl := numsL_length l
  have hz : numsL l = zs.take l.length := by
    conv => lhs; rw [← hzb]
    exact numsL_bytesOf _ (fun x hx => hzr x (List.mem_of_mem_take hx))
  simp only [maxLen] at hcm
  refine ⟨some ⟨g, 0, none⟩, cap, by rw [hnl], by rw [hnl]; exact hlc, rfl, by rw [hnl]; omega, fun _ => ⟨_, rfl, fun j hj => ?_⟩⟩
  rw [hnl] at hj
  rw [add_plain, hc j (by omega), hz]
  rw [List.getD_eq_getElem?_getD, List.getD_eq_getElem?_getD, List.getElem?_take_of_lt hj]
theorem holds_of_rd {w : World} {A : Option Addr} {c : Nat} {l : List Int} (h : Rd w A l) (hb : BytesOk l) : HoldsBytes w (.slice A l.length c) (Lib.bytesOf l) := by
  refine ⟨A, c, by rw [bytesOf_length], fun h0 => ?_, fun a ha i x hx => ?_⟩
  · rcases Nat.eq_zero_or_pos l.length with hl | hl
    · rw [List.eq_nil_of_length_eq_zero hl]; rfl
    · obtain ⟨ad, h1, _⟩ := h.2.2 hl
      rw [h0] at h1; cases h1
  · have hi : i < l.length := by
      have := (List.getElem?_eq_some_iff.1 hx).1
      rwa [bytesOf_length] at this
    obtain ⟨ad, h1, h2⟩ := h.2.2 (by omega)
    rw [ha] at h1
    injection h1 with h1
    subst h1
    rw [h2 i hi]
    have e := numsL_bytesOf l hb
    have : (numsL (Lib.bytesOf l))[i]? = some (x.toNat : Int) := by simp only [numsL, List.getElem?_map, hx, Option.map_some]
    rw [e] at this
    rw [List.getD_eq_getElem?_getD, this]
    rfl
theorem lens_bulk (ps : List (List Int)) : lens (ps.map Lib.bytesOf) = ps.flatten.length := by
  induction ps with
  | nil => rfl
  | cons p r ih => simp only [List.map_cons, lens_cons, ih, List.flatten_cons, List.length_append, bytesOf_length]
set_option maxHeartbeats 1000000 in
theorem Join_calls (A : Option Addr) (c : Nat) (ps : List (List Int)) (w : World) (hr : PartsRd w A ps) (hc : ps.length ≤ c) (hb : ∀ p ∈ ps, BytesOk p) (hn47 : ps.length ≤ 9223372036854775807) (hlen : ps.flatten.length ≤ 140737488355328) :
    Calls Try.prog 9 #[.slice A ps.length c, .slice none 0 0] w fun e w' => ∃ A' c', e = .returned (.slice A' ps.flatten.length c') ∧ ps.flatten.length ≤ c' ∧ Rd w' A' ps.flatten ∧ Below w.heap.size w w' := by
  match ps, hr, hc, hb, hn47, hlen with
  | [], _, _, _, _, _ =>
    go_enter Try.func9, Try.ntmps9
    go_wp2_with fail
    go_ret
    exact ⟨some ⟨w.heap.size, 0, none⟩, 0, rfl, by simp, ⟨rfl, by simp, fun h => absurd h (by simp)⟩, below_alloc (Below.refl _ _) _⟩
  | [p], hr, hc, hb, hn, hl =>
    have hmx := hr.1
    obtain ⟨ad, Ak, ck, rfl, hcell, hck, hrd⟩ := hr.2 0 (by simp)
    simp only [List.getElem_cons_zero] at hcell hck hrd
    rw [Addr.add, if_pos rfl] at hcell
    simp only [List.flatten_cons, List.flatten_nil, List.append_nil, List.length_cons, List.length_nil] at hl hc ⊢
    replace hrd := Lib.hid hrd
    obtain ⟨v1, w1, hrun, ho, hg, -⟩ := app_run 28 (.slice none 0 0) [] p Ak ck (own_nil w w.heap.size 5 1) hrd.out (Nat.le_refl _) (by simpa using hl)
    rw [List.nil_append] at ho
    replace ho := Lib.hid ho
    replace hg := Lib.hid hg
    clear hr hb
    go_enter Try.func9, Try.ntmps9
    go_wp2_with (at_builtin; refine Lib.wpList_append_run_sl _ rfl _ _ 28 rfl _ _ rfl rfl hrun ?_)
    go_ret
    obtain ⟨A', c', rfl, h1⟩ := own_rd ho.out
    exact ⟨A', c', rfl, own_cap ho.out, h1, below_of_none hg.out⟩
  | p :: q :: r, hr, hc, hb, hn, hl =>
    generalize hps : p :: q :: r = ps at *
    have h2 : 2 ≤ ps.length := by rw [← hps]; simp
    clear hps
    obtain ⟨ad, Ak, ck, rfl, -, -, -⟩ := hr.2 0 (by omega)
    have hP : PartsAt w ad ((List.range ps.length).map fun k => (w.cell? (ad.add k)).getD .nilIface) (ps.map Lib.bytesOf) := by
      refine ⟨by simp, fun i v hv => ?_, fun i v l hv hl => ?_⟩
      · have hi : i < ps.length := by have := (List.getElem?_eq_some_iff.1 hv).1; simpa using this
        obtain ⟨ad', Ak, ck, h1, h2, h3, h4⟩ := hr.2 i hi
        injection h1 with h1
        subst h1
        simp only [List.getElem?_map, List.getElem?_range hi, Option.map_some, h2, Option.getD_some, Option.some.injEq] at hv
        rw [h2, hv]
      · have hi : i < ps.length := by have := (List.getElem?_eq_some_iff.1 hv).1; simpa using this
        obtain ⟨ad', Ak, ck, h1, h2, h3, h4⟩ := hr.2 i hi
        injection h1 with h1
        subst h1
        simp only [List.getElem?_map, List.getElem?_range hi, Option.map_some, h2, Option.getD_some, Option.some.injEq] at hv
        simp only [List.getElem?_map, List.getElem?_eq_getElem hi, Option.map_some, Option.some.injEq] at hl
        subst hv hl
        exact holds_of_rd h4 (hb _ (List.getElem_mem hi))
    refine (Join_many ad ps.length c _ _ w (by simp) h2 hP hc hn (by rw [lens_bulk]; exact hl)).mono ?_
    rintro e w' ⟨v', rfl, hf, hbl⟩
    obtain ⟨A', c', rfl, h1, h2⟩ := fresh_rd hf
    rw [join_flat, numsL_flat ps hb] at h1 h2 ⊢
    exact ⟨A', c', rfl, h1, h2, hbl⟩
end Go.Proofs.Ytingiihboibcdaa.D
