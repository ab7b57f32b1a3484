/- The calls on the document's memo, told by its list of keys and values; a memo beside the document's. -/
import Derived.Test.YtecgbhiebaiokaaK5
namespace Go.Proofs.Ytecgbhiebaiokaa.G
open Go.RowKit Go.Proofs.YtecgbhiebaiokaaW.PrintWords Go.Proofs.YtecgbhiebaiokaaW.PrintLast Go.Proofs.YtecgbhiebaiokaaW.PrintMore
section
variable (w : World) (B gq : Nat) (sz h m g : Int) (v : Value) (M : KV) (k : Int)
theorem place_look {k : Int} {M : KV} (hu : KUniq M) {i : Nat} (hi : i < M.length) (hik : M[i].1 = k) : kvLook k M = some M[i].2 :=
  (look_mem hu).2 (by rw [← hik]; exact List.getElem_mem hi)
theorem RGet_kv (r : RM w B gq sz h m g v M) (hu : KUniq M) (h0 : 0 ≤ h) (h1 : h ≤ 1152921504606846976) (i0 : 0 ≤ m) (i1 : m ≤ 1152921504606846976) :
    Calls Try.prog 32 #[.pointer (some ⟨gq, 0, none⟩), .int .i64 k] w fun e w' => e = .returned (.tuple #[.int .i64 ((kvLook k M).getD 0), .bool (kvLook k M).isSome]) ∧ ∃ v', RM w' B gq sz (h + hitI (kvLook k M)) (m + missI (kvLook k M)) g v' (kvGet k M) ∧ Chg w w' (fun q => q = gq) := by
  cases hh : kvHas k M with
  | true =>
    obtain ⟨i, hi, hik⟩ := kv_place hh
    have hl := place_look hu hi hik
    refine (RGet_hit w B gq sz h m g v M k r hu i hi hik h0 h1).mono ?_
    rintro e w' ⟨rfl, v', r', hc⟩
    rw [hl]
    refine ⟨rfl, v', ?_, hc⟩
    have e1 : kvGet k M = (k, M[i].2) :: M.eraseIdx i := by
      unfold kvGet
      rw [hl]
      simp only []
      rw [kv_erase hu i hi hik]
    rw [e1]
    simpa [hitI, missI] using r'
  | false =>
    have hl := look_none.2 hh
    refine (RGet_miss w B gq sz h m g v M k r hh i0 i1).mono ?_
    rintro e w' ⟨rfl, r', hc⟩
    rw [hl]
    refine ⟨rfl, v, ?_, hc⟩
    have e1 : kvGet k M = M := by
      unfold kvGet
      rw [hl]
    rw [e1]
    simpa [hitI, missI] using r'
theorem RLook_kv (r : RM w B gq sz h m g v M) (hu : KUniq M) :
    Calls Try.prog 33 #[.pointer (some ⟨gq, 0, none⟩), .int .i64 k] w fun e w' => e = .returned (.tuple #[.int .i64 ((kvLook k M).getD 0), .bool (kvLook k M).isSome]) ∧ w = w' := by
  cases hh : kvHas k M with
  | true =>
    obtain ⟨i, hi, hik⟩ := kv_place hh
    rw [place_look hu hi hik]
    exact RLook_hit w B gq sz h m g v M k r hu i hi hik
  | false =>
    rw [look_none.2 hh]
    exact RLook_miss w B gq sz h m g v M k r hh
theorem RPut_kv (x : Int) (n : Nat) (hn : (n : Int) = sz) (hn1 : 1 ≤ n) (r : RM w B gq sz h m g v M) (hu : KUniq M) (hl : M.length ≤ n) (hn2 : n ≤ 4096) (g0 : 0 ≤ g) (g1 : g ≤ 1152921504606846976) :
    Calls Try.prog 34 #[.pointer (some ⟨gq, 0, none⟩), .int .i64 k, .int .i64 x] w fun e w' => e = .returned (.tuple #[.int .i64 ((kvOut n k M).getD 0), .bool (kvOut n k M).isSome]) ∧ ∃ v', RM w' B gq sz h m (g + hitI (kvOut n k M)) v' (kvPut n k x M) ∧ Chg w w' (fun q => q = gq) := by
  cases hh : kvHas k M with
  | true =>
    obtain ⟨i, hi, hik⟩ := kv_place hh
    have h2 : kvOut n k M = none := by unfold kvOut; rw [if_pos hh]
    have h3 : kvPut n k x M = (k, x) :: M.eraseIdx i := by unfold kvPut; rw [if_pos hh, kv_erase hu i hi hik]
    refine (RPut_hit w B gq sz h m g v M k x r (by omega) hu i hi hik (by omega)).mono ?_
    rintro e w' ⟨rfl, v', r', hc⟩
    rw [h2, h3]
    exact ⟨rfl, v', by simpa [hitI] using r', hc⟩
  | false =>
    have h1 : ¬ kvHas k M = true := by rw [hh]; simp
    by_cases hlt : M.length < n
    · have h2 : kvOut n k M = none := by unfold kvOut; rw [if_neg h1, if_pos hlt]
      have h3 : kvPut n k x M = (k, x) :: M := by unfold kvPut; rw [if_neg h1, if_pos hlt]
      refine (RPut_room w B gq sz h m g v M k x r (by omega) hh (by omega)).mono ?_
      rintro e w' ⟨rfl, v', r', hc⟩
      rw [h2, h3]
      exact ⟨rfl, v', by simpa [hitI] using r', hc⟩
    · have hne : M ≠ [] := by
        rintro rfl
        simp at hlt
        omega
      have h2 : kvOut n k M = some (M.getLast hne).1 := by unfold kvOut; rw [if_neg h1, if_neg hlt, List.getLast?_eq_some_getLast hne]; rfl
      have h3 : kvPut n k x M = ((k, x) :: M).dropLast := by unfold kvPut; rw [if_neg h1, if_neg hlt, List.dropLast_cons_of_ne_nil hne]
      refine (RPut_full w B gq sz h m g v M k x r (by omega) hh (M.getLast hne).1 (by rw [List.getLast?_eq_some_getLast hne]; rfl) (by omega) g0 g1).mono ?_
      rintro e w' ⟨rfl, v', r', hc⟩
      rw [h2, h3]
      exact ⟨rfl, v', by simpa [hitI] using r', hc⟩
end
/-- a memo and the document's, which stand alike -/
structure Both (w0 W : World) (gm gb gq n : Nat) (h m g : Int) (L : List (Ent Int)) (v : Value) : Prop where
  me : Memo ktI W w0.heap.size gm gb n h m g L
  r : RM W w0.heap.size gq n h m g v (kv L)
  bel : Below w0.heap.size w0 W
section
variable {w0 W W1 : World} {gm gb gq n : Nat} {h m g : Int} {L : List (Ent Int)} {v : Value}
theorem Both.q_ne (b : Both w0 W gm gb gq n h m g L v) : ∀ k, FM gm gb L k → k ≠ gq := by
  rintro k (rfl | rfl | ⟨e, he, rfl⟩)
  · exact blk_ne b.me.ch.mem b.r.q (by decide)
  · exact (b.me.mp.ne b.r.q).symm
  · obtain ⟨j, hj, rfl⟩ := List.getElem_of_mem he
    exact blk_ne (b.me.ch.row j hj) b.r.q (by decide)
theorem Both.v_ne (b : Both w0 W gm gb gq n h m g L v) : ∀ k, v.ownBlock = some k → ¬ FM gm gb L k := by
  rintro q hv (rfl | rfl | ⟨e, he, rfl⟩)
  · exact own_ne b.r.o b.me.ch.mem (by decide) hv.symm
  · obtain ⟨-, ⟨rfl, -⟩ | ⟨g', cap, cur, rfl, -, hh, -⟩⟩ := b.r.o
    · simp [Value.ownBlock] at hv
    · have : g' = q := by simpa [Value.ownBlock] using hv
      exact b.me.mp.ne hh this
  · obtain ⟨j, hj, rfl⟩ := List.getElem_of_mem he
    exact own_ne b.r.o (b.me.ch.row j hj) (by decide) hv.symm
theorem RM.chg {w w1 : World} {B gq : Nat} {sz h m g : Int} {v : Value} {M : KV} {S : Nat → Prop} (r : RM w B gq sz h m g v M) (hc : Chg w w1 S) (h1 : ¬ S gq) (h2 : ∀ k, v.ownBlock = some k → ¬ S k) : RM w1 B gq sz h m g v M := ⟨hc.blk r.q h1, r.o.chg hc h2, r.b, r.ln⟩
theorem Both.thin (b : Both w0 W gm gb gq n h m g L v) (hb : Below W.heap.size W W1) : Both w0 W1 gm gb gq n h m g L v := ⟨b.me.below hb, b.r.below hb, below_step b.bel hb⟩
theorem Both.drewN (b : Both w0 W gm gb gq n h m g L v) (k : Nat) : Both w0 (W.drewN k) gm gb gq n h m g L v := ⟨b.me.drewN k, b.r.drewN k, pw_below_drewN b.bel k⟩
/-- both have made the same step, the program's memo first -/
theorem Both.step (b : Both w0 W gm gb gq n h m g L v) {n' : Nat} {h' m' g' : Int} {L' : List (Ent Int)} {M : KV} {W2 : World} {v' : Value} (hs : Step W W1 w0.heap.size gm gb n' h' m' g' L L' M) (r : RM W2 w0.heap.size gq n' h' m' g' v' M) (hc : Chg W1 W2 (fun q => q = gq)) : Both w0 W2 gm gb gq n' h' m' g' L' v' :=
  ⟨hs.me.chg hc (fun k hk he => by
    subst he
    rcases hs.fm _ hk with h1 | h1
    · exact b.q_ne _ h1 rfl
    · have := blk_lt b.r.q
      omega), by rw [hs.eq]; exact r, (Chg.old b.me hs.ch b.bel b.bel.size).trans (hc.below (Nat.le_trans b.bel.size hs.ch.size) (fun q hq => by rw [hq]; exact b.r.b))⟩
theorem Both.mid (b : Both w0 W gm gb gq n h m g L v) {n' : Nat} {h' m' g' : Int} {L' : List (Ent Int)} {M : KV} (hs : Step W W1 w0.heap.size gm gb n' h' m' g' L L' M) : RM W1 w0.heap.size gq n h m g v (kv L) :=
  b.r.chg hs.ch (fun hf => b.q_ne _ hf rfl) b.v_ne
theorem Both.uniq (b : Both w0 W gm gb gq n h m g L v) : KUniq (kv L) := kv_uniq b.me.uq
end
end Go.Proofs.Ytecgbhiebaiokaa.G
