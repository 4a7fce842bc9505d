/- Who knows terms: Why. No condition. -/
import Derived.Test.YthlnoaalhojphaaObKnowU
import Derived.Outline
namespace Go.Proofs.Ythlnoaalhojphaa
open Go.RowKit
set_option linter.unusedVariables false
/-! ### one after the other is left out, in plain Lean -/
def But (X : List Int) (z : Int) : List Int := X.filter fun y => !(y == z)
theorem but_mem {X : List Int} {y z : Int} : y ∈ But X z ↔ y ∈ X ∧ y ≠ z := by unfold But; rw [List.mem_filter]; simp
/-- Of the ids of l, those of p have been tried; X is left. -/
structure WhyI (T : List Nd) (l p X : List Int) (id : Nat) : Prop where
  sub : ∀ z ∈ X, z ∈ l
  rest : ∀ z ∈ l, z ∉ p → z ∈ X
  der : Der T (InL X) id
  least : ∀ z ∈ X, z ∈ p → ¬ Der T (InL (But X z)) id
theorem WhyI.start {T : List Nd} {l : List Int} {id : Nat} (h : Der T (InL l) id) : WhyI T l [] l id := ⟨fun _ h => h, fun _ h _ => h, h, fun z _ hz => by cases hz⟩
theorem WhyI.out {T : List Nd} {l p X : List Int} {id : Nat} {z : Int} (h : WhyI T l p X id) (hd : Der T (InL (But X z)) id) : WhyI T l (p ++ [z]) (But X z) id := by
  refine ⟨fun y hy => h.sub y (but_mem.1 hy).1, fun y hy hn => but_mem.2 ⟨h.rest y hy (fun q => hn (List.mem_append_left _ q)), fun e => hn (by simp [e])⟩, hd, fun y hy hp hdd => ?_⟩
  have hy1 := but_mem.1 hy
  have hp1 : y ∈ p := by
    rcases List.mem_append.1 hp with q | q
    · exact q
    · exact absurd (List.mem_singleton.1 q) hy1.2
  exact h.least y hy1.1 hp1 (hdd.mono fun i hi => but_mem.2 ⟨(but_mem.1 (but_mem.1 hi).1).1, (but_mem.1 hi).2⟩)
theorem WhyI.back {T : List Nd} {l p X : List Int} {id : Nat} {z : Int} (h : WhyI T l p X id) (hz : z ∈ X) (hn : ¬ Der T (InL (But X z)) id) : WhyI T l (p ++ [z]) (But X z ++ [z]) id := by
  have hm : ∀ y, y ∈ But X z ++ [z] ↔ y ∈ X := fun y => by
    rw [List.mem_append, but_mem, List.mem_singleton]
    constructor
    · rintro (q | q)
      · exact q.1
      · rw [q]; exact hz
    · intro q
      by_cases e : y = z
      · exact .inr e
      · exact .inl ⟨q, e⟩
  refine ⟨fun y hy => h.sub y ((hm y).1 hy), fun y hy hp => (hm y).2 (h.rest y hy (fun q => hp (List.mem_append_left _ q))), h.der.mono fun i hi => (hm _).2 hi, fun y hy hp hd => ?_⟩
  have hd2 : Der T (InL (But X y)) id := hd.mono fun i hi => but_mem.2 ⟨(hm _).1 (but_mem.1 hi).1, (but_mem.1 hi).2⟩
  rcases List.mem_append.1 hp with q | q
  · exact h.least y ((hm y).1 hy) q hd2
  · rw [List.mem_singleton.1 q] at hd2
    exact hn hd2
/-! ### delete, and what a change of the left ones' map leaves -/
theorem mK.del {w : World} {bk n : Nat} {l : List Int} (h : mK w bk n l) (z : Int) (hz : In64 z) (ty : TypeId) : ∃ w', (Builtin.delete_ #[53, 3] ty #[.map (some bk), .int .i64 z]).run Try.prog w = .ok (.tuple #[]) w' ∧ mK w' bk n (But l z) ∧ Tch (fun b => b = bk) w w' := by
  obtain ⟨D, h, hh⟩ := h
  obtain ⟨w', hr, h1, h2⟩ := World.ownsMap.drop h keyedI Try.underlying53 (keyI hz) ty
  refine ⟨w', hr, ⟨_, h1, fun x => ?_⟩, Tch.grown h2.grown (fun k hk => (Option.some.inj hk).symm)⟩
  rw [has_del_int, hh, Bool.eq_iff_iff, List.contains_iff_mem, but_mem]
  simp
  exact ⟨fun q => ⟨q.2, q.1⟩, fun q => ⟨q.2, q.1⟩⟩
theorem wpList_unmark {ops : Array Oper} {rest : List Oper} {o : Oper} {a : Act} {Q : Exit → Act → World → Prop} (hg : o.guard = none) (m x : Operand) (hop : o.op = Op.call { callee := Callee.builtin Builtin.delete, args := #[m, x], argTypes := #[53, 3] })
    (w : World) (bk n : Nat) (l : List Int) (z : Int) (hm : a.eval m = .map (some bk)) (hx : a.eval x = .int .i64 z) (hz : In64 z) (h : mK w bk n l)
    (hK : ∀ w', mK w' bk n (But l z) → Tch (fun b => b = bk) w w' → wpList Try.prog ops Q rest (a.put o.dst (.tuple #[])) w') :
    wpList Try.prog ops Q (o :: rest) a w := by
  refine wpList_plain hg fun K' hK' => ?_
  obtain ⟨w', hrun, r1, r2⟩ := h.del z hz o.type
  unfold Oper.wp
  simp [execOp, hop, resolve, invoke, builtin, hm, hx, hrun, Result.andThen]
  exact hK' _ _ (hK w' r1 r2)
theorem KnF.mapOff {w0 w w' : World} {gk g bk n bl n' : Nat} {T : List Nd} {l X : List Int} {vk vp vi : Value} (h : KnF w0 w gk g bk n T l vk vp vi) (m : mK w bl n' X) (t : Tch (fun b => b = bl) w w') (hne : bk ≠ bl) (hB : w0.heap.size ≤ bl) : KnF w0 w' gk g bk n T l vk vp vi := by
  obtain ⟨es, clock, hm⟩ := m.obj
  refine h.tch t (fun b q => by omega) (fun e => ?_) hne (fun b hb e => ?_) (fun A n c xs h0 hi b o e q => Sl.not_map hi (by decide) hm h0 e q)
  · have := h.blk
    unfold Blk at this
    rw [e, hm] at this
    cases this
  · subst e
    rcases hb with hb | hb | hb
    · rcases h.kp with ⟨e, _⟩ | ⟨q1, R, q2, q3⟩
      · rw [e] at hb; cases hb
      · exact q1.not_map hm hb
    · rcases h.kp with ⟨_, e⟩ | ⟨q1, R, q2, q3⟩
      · rw [e] at hb; cases hb
      · exact q2.1.not_map hm hb
    · rcases h.is with e | ⟨d, q1, q2⟩
      · rw [e] at hb; cases hb
      · exact q1.not_map hm hb
theorem sortU_id {l : List Int} (h : l.Pairwise (· < ·)) : sortU l = l := up_uniq (sortU_up l) h (fun z => sortU_mem l z)
/-- What Why answers. -/
def WhyOk (T : List Nd) (l : List Int) (id : Nat) (ws : List Int) : Prop := ws.Pairwise (· < ·) ∧ (∀ z ∈ ws, z ∈ l) ∧ Der T (InL ws) id ∧ ∀ z ∈ ws, ¬ Der T (InL (But ws z)) id
theorem WhyI.fin {T : List Nd} {l p X : List Int} {id : Nat} (h : WhyI T l p X id) (hp : ∀ z ∈ l, z ∈ p) : WhyOk T l id (sortU X) :=
  ⟨sortU_up X, fun z hz => h.sub z ((sortU_mem X z).1 hz), h.der.mono fun i hi => (sortU_mem X _).2 hi, fun z hz hd => h.least z ((sortU_mem X z).1 hz) (hp z (h.sub z ((sortU_mem X z).1 hz))) (hd.mono fun i hi => but_mem.2 ⟨(sortU_mem X _).1 (but_mem.1 hi).1, (but_mem.1 hi).2⟩)⟩
end Go.Proofs.Ythlnoaalhojphaa
