/- Two states beside one another; what is derived of ids that are there. No condition. -/
import Derived.Test.YthlnoaalhojphaaObKnowP
namespace Go.Proofs.Ythlnoaalhojphaa
open Go.RowKit
set_option linter.unusedVariables false
theorem ok_mem {T : List Nd} {ids : List Int} {z : Int} : z ∈ okIds T ids ↔ z ∈ ids ∧ outside T.length z = false := by
  unfold okIds
  rw [List.mem_filter]
  simp
theorem okIds_in {T : List Nd} {ids : List Int} : ∀ x ∈ okIds T ids, outside T.length x = false := fun x hx => (ok_mem.1 hx).2
theorem der_ok {T : List Nd} {ids : List Int} {id : Nat} : Der T (InL (okIds T ids)) id ↔ Der T (InL ids) id := by
  constructor
  · exact fun h => h.mono fun i hi => (ok_mem.1 hi).1
  · intro h
    induction h with
    | know h1 h2 h3 => exact .know h1 h2 (ok_mem.2 ⟨h3, by unfold outside; simp; omega⟩)
    | make hx hk _ ih => exact .make hx hk ih
    | opens hx hk _ _ ih1 ih2 => exact .opens hx hk ih1 ih2
theorem all_ok {T : List Nd} (hT : Parted T) (ids : List Int) : Tells T (InL (okIds T ids)) (allL T ids) :=
  ⟨(allL_tells hT ids).1, fun id => ((allL_tells hT ids).2 id).trans der_ok.symm⟩
/-- A call on one state leaves another one. -/
theorem KnF.other {w0 w w' : World} {gk g bk n gk' g' bk' n' : Nat} {T : List Nd} {l l' : List Int} {vk vp vi vk' vp' vi' : Value} (h : KnF w0 w gk g bk n T l vk vp vi) (h' : KnF w0 w gk' g' bk' n' T l' vk' vp' vi') (t : Tch (KS gk bk) w w') (h1 : gk' ≠ gk) (h2 : bk' ≠ bk) : KnF w0 w' gk' g' bk' n' T l' vk' vp' vi' := by
  have hB : ∀ b, KS gk bk b → w0.heap.size ≤ b := fun b q => by rcases q with rfl | rfl; exact h.ge; exact h.gm
  have bk_map : ∀ {gg : Nat} {t : TypeId} {cs : List Value}, Blk w gg t cs → gg ≠ bk := fun hb e => by
    subst e
    obtain ⟨es, clock, hm⟩ := h.m.obj
    unfold Blk at hb
    rw [hm] at hb
    cases hb
  have n1 : ¬ KS gk bk gk' := fun q => q.elim h1 (bk_map h'.blk)
  have n2 : ¬ KS gk bk bk' := fun q => q.elim (fun e => by
    subst e
    obtain ⟨es, clock, hm⟩ := h'.m.obj
    have := h.blk
    unfold Blk at this
    rw [hm] at this
    cases this) h2
  refine h'.tch t hB n1 n2 (fun b hb => ?_) (fun A n c xs h0 hi b o e => h.row_off hi h0 b o e)
  rcases hb with hb | hb | hb
  · rcases h'.kp with ⟨e, _⟩ | ⟨q1, R, q2, q3⟩
    · rw [e] at hb; cases hb
    · exact h.own_off q1 (by decide) b hb
  · rcases h'.kp with ⟨_, e⟩ | ⟨q1, R, q2, q3⟩
    · rw [e] at hb; cases hb
    · exact h.own_off q2.1 (by decide) b hb
  · rcases h'.is with e | ⟨d, q1, q2⟩
    · rw [e] at hb; cases hb
    · exact h.own_off q1 (by decide) b hb
theorem know_bools {g bk : Nat} {vk vp vi : Value} (hs : (∃ A n c, vk = .slice A n c) ∧ (∃ A n c, vp = .slice A n c) ∧ ∃ A n c, vi = .slice A n c) : ∀ u ∈ [Value.pointer (some ⟨g, 0, none⟩), .map (some bk), vk, vp, vi], ∀ x, u ≠ .bool x := by
  obtain ⟨⟨A, n, c, rfl⟩, ⟨A', n', c', rfl⟩, A'', n'', c'', rfl⟩ := hs
  intro u hu x
  simp at hu
  rcases hu with rfl | rfl | rfl | rfl | rfl <;> simp
/-- .. and a row of bools. -/
theorem KnF.bools {w0 w w' : World} {gk g bk n : Nat} {T : List Nd} {l : List Int} {vk vp vi : Value} (h : KnF w0 w gk g bk n T l vk vp vi) {A : Option Addr} {m c : Nat} {d : List Bool} (hd : Bls w A m c d) (t : Tch (KS gk bk) w w') : Bls w' A m c d := by
  refine hd.tch (by decide) t fun h0 b o e q => ?_
  rcases q with q | q
  · refine Sl.not_blk hd (by decide) h.blk (fun u hu x hx => ?_) h0 e q
    have hm := List.mem_of_getElem? hx
    obtain ⟨z, _, rfl⟩ := List.mem_map.1 hm
    exact know_bools ⟨h.kp.slices.1, h.kp.slices.2, h.is.slices⟩ u hu z
  · obtain ⟨es, clock, hm⟩ := h.m.obj
    exact Sl.not_map hd (by decide) hm h0 e q
/-- Derives, in words of a list that tells all. -/
theorem derives_at (w0 : World) (gk g bk N : Nat) (T : List Nd) (l : List Int) (vk vp vi : Value) (d : List Bool) (k : Nat) (w : World) (h : KnF w0 w gk g bk N T l vk vp vi) (ht : KnT w0 g T l) (hd : Tells T (InL l) d) (hk : k ≤ 100000) :
    Calls Try.prog 13 #[.pointer (some ⟨gk, 0, none⟩), .int .i64 (k : Int)] w fun e w' => e = .returned (.bool (dAt d k)) ∧ ∃ vk vp vi, KnF w0 w' gk g bk N T l vk vp vi ∧ Tch (KS gk bk) w w' := by
  refine (derives_any w0 gk g bk N T l vk vp vi (k : Int) w h ht ⟨by omega, by omega⟩).mono ?_
  rintro e w' ⟨r, vk', vp', vi', rfl, hr, h', t'⟩
  refine ⟨?_, vk', vp', vi', h', t'⟩
  have : r = dAt d k := by
    rw [Bool.eq_iff_iff, hr, hd.2 k]
    unfold derB
    constructor
    · exact fun q => q.2
    · intro q
      have := Der.bound ht.p q
      exact ⟨by unfold outside; simp; omega, q⟩
  rw [this]
theorem derives_out (w0 : World) (gk g bk N : Nat) (T : List Nd) (l : List Int) (vk vp vi : Value) (id : Int) (w : World) (h : KnF w0 w gk g bk N T l vk vp vi) (ht : KnT w0 g T l) (hi : In64 id) (ho : outside T.length id = true) :
    Calls Try.prog 13 #[.pointer (some ⟨gk, 0, none⟩), .int .i64 id] w fun e w' => e = .returned (.bool false) ∧ ∃ vk vp vi, KnF w0 w' gk g bk N T l vk vp vi ∧ Tch (KS gk bk) w w' := by
  refine (derives_any w0 gk g bk N T l vk vp vi id w h ht hi).mono ?_
  rintro e w' ⟨r, vk', vp', vi', rfl, hr, h', t'⟩
  refine ⟨?_, vk', vp', vi', h', t'⟩
  cases r with
  | false => rfl
  | true => have := (hr.1 rfl).1; rw [ho] at this; cases this
end Go.Proofs.Ythlnoaalhojphaa
