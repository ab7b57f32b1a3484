/- The calls on a memo of integers, told by its list of keys and values. -/
import Derived.Test.YtecgbhiebaiokaaH14
namespace Go.Proofs.Ytecgbhiebaiokaa.G
open Go.RowKit Go.Proofs.YtecgbhiebaiokaaW.PrintWords Go.Proofs.YtecgbhiebaiokaaW.PrintLast Go.Proofs.YtecgbhiebaiokaaW.PrintMore
def kv (L : List (Ent Int)) : KV := L.map (fun e => (e.k, e.v))
theorem kv_len (L : List (Ent Int)) : (kv L).length = L.length := by simp [kv]
theorem kv_has (k : Int) (L : List (Ent Int)) : kvHas k (kv L) = has k L := by simp [kvHas, has, kv, List.any_map, Function.comp_def]
theorem kv_cut (k : Int) (L : List (Ent Int)) : kvCut k (kv L) = kv (cutK k L) := by simp [kvCut, cutK, kv, List.filter_map, Function.comp_def]
theorem kv_uniq {L : List (Ent Int)} (h : Uniq L) : KUniq (kv L) := by
  unfold KUniq kv Uniq at *
  rw [List.map_map]
  exact h
theorem kv_look_hit {k : Int} {L : List (Ent Int)} (hu : Uniq L) (h : has k L = true) : kvLook k (kv L) = some (L[at_ k L]'(at_lt h)).v := by
  rw [look_mem (kv_uniq hu)]
  have hk := at_key h
  exact List.mem_map.2 ⟨_, List.getElem_mem (at_lt h), by rw [hk]⟩
theorem kv_look_miss {k : Int} {L : List (Ent Int)} (h : has k L = false) : kvLook k (kv L) = none := by
  rw [look_none, kv_has]
  exact h
theorem kv_hit {k v : Int} {L : List (Ent Int)} (h : kvLook k (kv L) = some v) : has k L = true := by
  rw [← kv_has]
  exact has_true.2 ⟨v, h⟩
theorem kv_last (L : List (Ent Int)) {q : Nat} (hq : q + 1 = L.length) : kv (L.eraseIdx q) = (kv L).dropLast := by
  have e : L.eraseIdx q = L.dropLast := by
    rw [show q = L.length - 1 from by omega]
    exact List.eraseIdx_length_sub_one
  rw [e]
  simp [kv, List.map_dropLast]
/-- what a Put pushes out -/
def kvOut (n : Nat) (k : Int) (M : KV) : Option Int := if kvHas k M then none else if M.length < n then none else (M.getLast?).map (·.1)
def hitI (o : Option Int) : Int := if o.isSome then 1 else 0
def missI (o : Option Int) : Int := if o.isSome then 0 else 1
/-- a memo behind a call -/
structure Step (w w' : World) (B gm gb : Nat) (most h m g : Int) (L L' : List (Ent Int)) (M : KV) : Prop where
  me : Memo ktI w' B gm gb most h m g L'
  eq : kv L' = M
  ch : Chg w w' (FM gm gb L)
  fm : ∀ q, FM gm gb L' q → FM gm gb L q ∨ w.heap.size ≤ q
theorem Get_kv (w : World) (B gm gb : Nat) (most h m g : Int) (L : List (Ent Int)) (k : Int) (hM : Memo ktI w B gm gb most h m g L) (hk : ktI.ok k) (hm1 : h + 1 ≤ 1152921504606846976) (hm2 : m + 1 ≤ 1152921504606846976) :
    Calls Try.prog 11 #[.pointer (some ⟨gm, 0, none⟩), .int .i64 k] w fun e w' => e = .returned (.tuple #[.int .i64 ((kvLook k (kv L)).getD 0), .bool (kvLook k (kv L)).isSome]) ∧ ∃ L', Step w w' B gm gb most (h + hitI (kvLook k (kv L))) (m + missI (kvLook k (kv L))) g L L' (kvGet k (kv L)) := by
  cases hh : has k L with
  | true =>
    have h1 := kv_look_hit hM.uq hh
    refine (Get_I_hit w B gm gb most h m g L k hM hk hh hm1).mono ?_
    rintro e w' ⟨rfl, hM2, hc⟩
    rw [h1]
    refine ⟨rfl, (L[at_ k L]'(at_lt hh) :: L.eraseIdx (at_ k L)), ⟨?_, ?_, hc, fun q hq => ?_⟩⟩
    · simpa [hitI, missI] using hM2
    · unfold kvGet
      rw [h1]
      simp only []
      rw [kv_cut, ← erase_cut hM.uq hh]
      simp [kv, at_key hh]
    · rcases hq with h2 | h2 | ⟨x, hx, h2⟩
      · exact .inl (.inl h2)
      · exact .inl (.inr (.inl h2))
      · refine .inl (.inr (.inr ⟨x, ?_, h2⟩))
        rcases List.mem_cons.1 hx with rfl | hx
        · exact List.getElem_mem _
        · exact List.mem_of_mem_eraseIdx hx
  | false =>
    have h1 := kv_look_miss hh
    refine (Get_I_miss w B gm gb most h m g L k hM hk hh hm2).mono ?_
    rintro e w' ⟨rfl, hM2, hc⟩
    rw [h1]
    refine ⟨rfl, L, ⟨?_, ?_, hc, fun q hq => .inl hq⟩⟩
    · simpa [hitI, missI] using hM2
    · unfold kvGet
      rw [h1]
theorem Look_kv (w : World) (B gm gb : Nat) (most h m g : Int) (L : List (Ent Int)) (k : Int) (hM : Memo ktI w B gm gb most h m g L) (hk : ktI.ok k) :
    Calls Try.prog 12 #[.pointer (some ⟨gm, 0, none⟩), .int .i64 k] w fun e w' => e = .returned (.tuple #[.int .i64 ((kvLook k (kv L)).getD 0), .bool (kvLook k (kv L)).isSome]) ∧ w = w' := by
  cases hh : has k L with
  | true =>
    rw [kv_look_hit hM.uq hh]
    exact Look_I_hit w B gm gb most h m g L k hM hk hh
  | false =>
    rw [kv_look_miss hh]
    exact Look_I_miss w B gm gb most h m g L k hM hk hh
theorem Put_kv (w : World) (B gm gb : Nat) (most h m g : Int) (L : List (Ent Int)) (k v : Int) (n : Nat) (hn : (n : Int) = most) (hB : B ≤ w.heap.size) (hM : Memo ktI w B gm gb most h m g L) (hk : ktI.ok k) (hg1 : g + 1 ≤ 1152921504606846976) :
    Calls Try.prog 10 #[.pointer (some ⟨gm, 0, none⟩), .int .i64 k, .int .i64 v] w fun e w' => e = .returned (.tuple #[.int .i64 ((kvOut n k (kv L)).getD 0), .bool (kvOut n k (kv L)).isSome]) ∧ ∃ L', Step w w' B gm gb most h m (g + hitI (kvOut n k (kv L))) L L' (kvPut n k v (kv L)) := by
  have hln := hM.ln
  cases hh : has k L with
  | true =>
    have h1 : kvHas k (kv L) = true := by rw [kv_has]; exact hh
    have h2 : kvOut n k (kv L) = none := by unfold kvOut; rw [if_pos h1]
    refine (Put_I_hit w B gm gb most h m g L k v hM hk hh).mono ?_
    rintro e w' ⟨rfl, hM2, hc⟩
    rw [h2]
    refine ⟨rfl, (⟨k, v, (L[at_ k L]'(at_lt hh)).g⟩ :: cutK k L), ⟨?_, ?_, hc, fun q hq => ?_⟩⟩
    · simpa [hitI] using hM2
    · unfold kvPut
      rw [if_pos h1, kv_cut]
      simp [kv]
    · rcases hq with h2 | h2 | ⟨x, hx, h2⟩
      · exact .inl (.inl h2)
      · exact .inl (.inr (.inl h2))
      · rcases List.mem_cons.1 hx with rfl | hx
        · exact .inl (.inr (.inr ⟨_, List.getElem_mem (at_lt hh), h2⟩))
        · exact .inl (.inr (.inr ⟨x, (mem_cut.1 hx).1, h2⟩))
  | false =>
    have h1 : ¬ kvHas k (kv L) = true := by rw [kv_has, hh]; simp
    by_cases hlt : L.length < n
    · have h2 : kvOut n k (kv L) = none := by unfold kvOut; rw [if_neg h1, if_pos (by rw [kv_len]; exact hlt)]
      refine (Put_I_room w B gm gb most h m g L k v hB hM hk hh (by omega)).mono ?_
      rintro e w' ⟨rfl, ge, hge, hM2, hc⟩
      rw [h2]
      refine ⟨rfl, (⟨k, v, ge⟩ :: L), ⟨?_, ?_, hc, fun q hq => ?_⟩⟩
      · simpa [hitI] using hM2
      · unfold kvPut
        rw [if_neg h1, if_pos (by rw [kv_len]; exact hlt)]
        simp [kv]
      · rcases hq with h2 | h2 | ⟨x, hx, h2⟩
        · exact .inl (.inl h2)
        · exact .inl (.inr (.inl h2))
        · rcases List.mem_cons.1 hx with rfl | hx
          · exact .inr (by rw [← h2]; exact hge)
          · exact .inl (.inr (.inr ⟨x, hx, h2⟩))
    · have hm1 := hM.m1
      obtain ⟨q0, hq0⟩ : ∃ q0, q0 + 1 = L.length := ⟨L.length - 1, by omega⟩
      have hql : q0 < L.length := by omega
      have h2 : kvOut n k (kv L) = some L[q0].k := by
        unfold kvOut
        rw [if_neg h1, if_neg (by rw [kv_len]; exact hlt), List.getLast?_eq_getElem?, kv_len, show L.length - 1 = q0 from by omega]
        simp [kv, hql]
      refine (Put_I_full w B gm gb most h m g L k v hB hM hk hh q0 hq0 (by omega) hg1).mono ?_
      rintro e w' ⟨rfl, ge, hge, hM2, hc⟩
      rw [h2]
      refine ⟨rfl, (⟨k, v, ge⟩ :: L.eraseIdx q0), ⟨?_, ?_, hc, fun q hq => ?_⟩⟩
      · simpa [hitI] using hM2
      · unfold kvPut
        rw [if_neg h1, if_neg (by rw [kv_len]; exact hlt), ← kv_last L hq0]
        simp [kv]
      · rcases hq with h2 | h2 | ⟨x, hx, h2⟩
        · exact .inl (.inl h2)
        · exact .inl (.inr (.inl h2))
        · rcases List.mem_cons.1 hx with rfl | hx
          · exact .inr (by rw [← h2]; exact hge)
          · exact .inl (.inr (.inr ⟨x, List.mem_of_mem_eraseIdx hx, h2⟩))
theorem Chg.memo {w w' : World} {B gm gb : Nat} {most h m g : Int} {L : List (Ent Int)} {S : Nat → Prop} (hM : Memo ktI w B gm gb most h m g L) (hc : Chg w w' S) (hd : ∀ q, S q → ¬ FM gm gb L q) : Memo ktI w' B gm gb most h m g L := hM.chg hc (fun k hk hs => hd k hs hk)
end Go.Proofs.Ytecgbhiebaiokaa.G
