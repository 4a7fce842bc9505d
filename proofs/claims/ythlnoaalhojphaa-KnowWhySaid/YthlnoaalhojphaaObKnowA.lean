/- Who knows terms, in memory: the state, and what a call turns. No condition. -/
import Derived.Test.YthlnoaalhojphaaObTermQ
import Derived.Test.YthlnoaalhojphaaObTch
import Derived.Maps.Own
import Derived.Maps.OwnSet
import Derived.Maps.Views
namespace Go.Proofs.Ythlnoaalhojphaa
open Go.RowKit Go.Maps
set_option linter.unusedVariables false
/-! ### a set of ints -/
theorem keyedI : Keyed Try.prog 3 := int_keyed Try.underlying3
theorem wf_in {x : Int} (h : In64 x) : (Lit.int .i64 x).wf = true := by
  obtain ⟨h1, h2⟩ := h
  simp [Lit.wf, IntKind.min, IntKind.max, IntKind.signed, IntKind.bits]; omega
theorem keyI {x : Int} (h : In64 x) : keyOf Try.prog 3 (.int .i64 x) = some (.int .i64 x) := keyOf_int_mk Try.underlying3 (wf_in h)
def mK (w : World) (bk n : Nat) (l : List Int) : Prop := ∃ D, w.ownsMap Try.prog 3 Rv bk n D ∧ ∀ x, has D (.int .i64 x) = l.contains x
theorem mK.lt {w : World} {bk n : Nat} {l : List Int} (h : mK w bk n l) : bk < w.heap.size := by obtain ⟨D, h, _⟩ := h; exact h.lt
theorem mK.keep {w w' : World} {bk n : Nat} {l : List Int} (h : mK w bk n l) (e : w'.heap[bk]? = w.heap[bk]?) : mK w' bk n l := by
  obtain ⟨D, ⟨es, clock, hb, r⟩, hh⟩ := h
  exact ⟨D, ⟨es, clock, by rw [e]; exact hb, r⟩, hh⟩
theorem mK.up {w : World} {bk n n' : Nat} {l : List Int} (h : mK w bk n l) (hn : n ≤ n') : mK w bk n' l := by
  obtain ⟨D, h, hh⟩ := h
  exact ⟨D, h.mono hn, hh⟩
theorem mK.obj {w : World} {bk n : Nat} {l : List Int} (h : mK w bk n l) : ∃ es clock, w.heap[bk]? = some (.map es clock) := by
  obtain ⟨D, ⟨es, clock, hb, r⟩, hh⟩ := h
  exact ⟨es, clock, hb⟩
theorem has_put_int {D : DataW Value} (hD : IsMap D) (x z : Int) (v : DataW Value) : has (D.put (.int .i64 z) v) (.int .i64 x) = ((x == z) || has D (.int .i64 x)) := by
  by_cases h : x = z
  · subst h; rw [has_put_same hD (show WideAt.IsKeyLit (Lit.int .i64 x) from trivial)]; simp
  · rw [has_put_other (fun e => h (by injection e))]; simp [h]
theorem has_del_int {D : DataW Value} (x z : Int) : has (D.del (.int .i64 z)) (.int .i64 x) = (!(x == z) && has D (.int .i64 x)) := by
  by_cases h : x = z
  · subst h; rw [has_del_same]; simp
  · rw [has_del_other (fun e => h (by injection e))]; simp [h]
/-- The element that every id has. -/
def markV : Value := .agg #[]
theorem keys_notin {D : DataW Value} {w : World} {bk n : Nat} (h : w.ownsMap Try.prog 3 Rv bk n D) : IsMap D := h.isMap
theorem run_mark (w : World) (bk n : Nat) (l : List Int) (z : Int) (hz : In64 z) (h : mK w bk n l) (hn : n ≤ 1000000) :
    ∃ w', (Instr.mapUpdate 53 (.map (some bk)) (.int .i64 z) markV).run Try.prog w = .ok () w' ∧ mK w' bk (n + 1) (l ++ [z]) ∧ Tch (fun b => b = bk) w w' := by
  obtain ⟨D, h, hh⟩ := h
  have hv : Rv markV = some (.held markV, []) := rfl
  obtain ⟨w', hr, h1, h2⟩ := World.ownsMap.store h keyedI Try.underlying53 (by unfold maxLen; omega) (keyI hz) hv
  refine ⟨w', hr, ⟨_, h1, fun x => ?_⟩, Tch.grown h2.grown (fun k hk => (Option.some.inj hk).symm)⟩
  rw [has_put_int h.isMap, hh]
  by_cases hx : x = z <;> simp [hx]
theorem wpList_mark {ops : Array Oper} {rest : List Oper} {o : Oper} {a : Act} {Q : Exit → Act → World → Prop} (hg : o.guard = none) (m x v : Operand) (hop : o.op = Op.mapUpdate 53 m x v)
    (w : World) (bk n : Nat) (l : List Int) (z : Int) (hm : a.eval m = .map (some bk)) (hx : a.eval x = .int .i64 z) (hv : a.eval v = markV) (hz : In64 z) (h : mK w bk n l) (hn : n ≤ 1000000)
    (hK : ∀ w', mK w' bk (n + 1) (l ++ [z]) → Tch (fun b => b = bk) w w' → wpList Try.prog ops Q rest (a.put o.dst undef) w') :
    wpList Try.prog ops Q (o :: rest) a w := by
  refine wpList_plain hg fun K' hK' => ?_
  obtain ⟨w', hrun, r1, r2⟩ := run_mark w bk n l z hz h hn
  unfold Oper.wp
  simp [execOp, hop, hm, hx, hv, hrun, Result.andThen]
  exact hK' _ _ (hK w' r1 r2)
/-! ### rows of ints, gathered -/
structure IRow where
  a : Option Addr
  n : Nat
  c : Nat
  l : List Int
def IRow.v (r : IRow) : Value := .slice r.a r.n r.c
def IApart (v : Value) (r : IRow) : Prop := ∀ b o, 0 < r.n → r.a = some ⟨b, o, none⟩ → v.ownBlock ≠ some b
def GathI (w0 w : World) (v : Value) (R : List IRow) : Prop := Own w0 w 23 1 v R.length (R.map IRow.v) ∧ ∀ r ∈ R, Is w r.a r.n r.c r.l ∧ IApart v r
theorem GathI.nil' {w0 w : World} (hb : Below w0.heap.size w0 w) : GathI w0 w (.slice none 0 0) [] := ⟨Own.nil' hb _ _, fun r hr => by cases hr⟩
theorem GathI.mono {w0 w w' : World} {v : Value} {R : List IRow} (h : GathI w0 w v R) (hg : Gr w w') : GathI w0 w' v R := ⟨h.1.mono hg, fun r hr => ⟨(h.2 r hr).1.mono hg, (h.2 r hr).2⟩⟩
theorem GathI.tch {w0 w w' : World} {v : Value} {R : List IRow} {S : Nat → Prop} (h : GathI w0 w v R) (k : Tch S w w') (hB : ∀ b, S b → w0.heap.size ≤ b) (hn : ∀ b, v.ownBlock = some b → ¬ S b) (hr : ∀ r ∈ R, 0 < r.n → ∀ b o, r.a = some ⟨b, o, none⟩ → ¬ S b) : GathI w0 w' v R :=
  ⟨h.1.tch k hB hn, fun r hrr => ⟨(h.2 r hrr).1.tch (by decide) k (hr r hrr), (h.2 r hrr).2⟩⟩
theorem GathI.push {w0 w w' : World} {v v' : Value} {R : List IRow} {r : IRow} (h : GathI w0 w v R) (hr : Is w r.a r.n r.c r.l) (ha : IApart v r) (ho : Own w0 w' 23 1 v' (R.length + 1) (R.map IRow.v ++ [r.v])) (hk : Kept w w' v v') : GathI w0 w' v' (R ++ [r]) := by
  have ht : Tch (fun b => v.ownBlock = some b) w w' := Tch.kept hk ho h.1.2
  have one : ∀ x : IRow, Is w x.a x.n x.c x.l → IApart v x → Is w' x.a x.n x.c x.l ∧ IApart v' x := fun x hx hax => by
    refine ⟨hx.tch (by decide) ht (fun h0 b o e => hax b o h0 e), fun b o h0 e => ?_⟩
    have hlt := Sl.lt hx (by decide) h0 e
    rcases hk.2.2 with q | q
    · rw [q]; exact hax b o h0 e
    · rw [q]; intro hh; injection hh with hh; omega
  refine ⟨by rw [List.length_append, List.map_append]; exact ho, fun x hx => ?_⟩
  rcases List.mem_append.1 hx with hx | hx
  · exact one x (h.2 x hx).1 (h.2 x hx).2
  · obtain rfl : x = r := by simpa using hx
    exact one x hr ha
theorem tRowsI : ElemT Try.prog 54 23 (.slice none 0 0) 1 24 := ⟨Try.underlying54, by kernel_rfl, rfl, by decide, by decide⟩
/-! ### the state -/
def kindsA (T : List Nd) : List Int := (List.range (T.length + 1)).map fun id : Nat => (kindOf T (id : Int) : Int)
def partsA (T : List Nd) : List (List Int) := (List.range (T.length + 1)).map fun id : Nat => (partsOf T (id : Int)).map Int.ofNat
def boolc (b : Bool) : Value := .bool b
/-- All kinds and parts, or none yet. -/
def KnowAll (w0 w : World) (T : List Nd) (vk vp : Value) : Prop := (vk = .slice none 0 0 ∧ vp = .slice none 0 0) ∨ (Own w0 w 3 1 vk (T.length + 1) ((kindsA T).map i64c) ∧ ∃ R, GathI w0 w vp R ∧ R.map IRow.l = partsA T)
/-- What is derived, or not asked yet. -/
def IsAll (w0 w : World) (T : List Nd) (l : List Int) (vi : Value) : Prop := vi = .slice none 0 0 ∨ ∃ d, Own w0 w 4 1 vi d.length (d.map boolc) ∧ Tells T (fun i => (i : Int) ∈ l) d
structure KnF (w0 w : World) (gk g bk n : Nat) (T : List Nd) (l : List Int) (vk vp vi : Value) : Prop where
  ge : w0.heap.size ≤ gk
  gm : w0.heap.size ≤ bk
  bel : Below w0.heap.size w0 w
  blk : Blk w gk 56 [.pointer (some ⟨g, 0, none⟩), .map (some bk), vk, vp, vi]
  m : mK w bk n l
  kp : KnowAll w0 w T vk vp
  is : IsAll w0 w T l vi
theorem Is.off {w : World} {A : Option Addr} {n c : Nat} {l : List Int} (h : Is w A n c l) (h0 : 0 < n) {b o : Nat} (e : A = some ⟨b, o, none⟩) {g : Nat} {t : TypeId} {cs : List Value} (hb : Blk w g t cs) (hk : ∀ u ∈ cs, ∀ x, u ≠ .int .i64 x) : b ≠ g :=
  Sl.not_blk h (by decide) hb (fun u hu x hx => by
    have hm := List.mem_of_getElem? hx
    obtain ⟨z, _, rfl⟩ := List.mem_map.1 hm
    exact hk u hu z) h0 e
/-- Whatever turns other blocks than a state's own leaves it. -/
theorem KnF.tch {w0 w w' : World} {gk g bk n : Nat} {T : List Nd} {l : List Int} {vk vp vi : Value} {S : Nat → Prop} (h : KnF w0 w gk g bk n T l vk vp vi) (k : Tch S w w') (hB : ∀ b, S b → w0.heap.size ≤ b) (h1 : ¬ S gk) (h2 : ¬ S bk)
    (hv : ∀ b, vk.ownBlock = some b ∨ vp.ownBlock = some b ∨ vi.ownBlock = some b → ¬ S b) (hi : ∀ A n c xs, 0 < n → Is w A n c xs → ∀ b o, A = some ⟨b, o, none⟩ → ¬ S b) : KnF w0 w' gk g bk n T l vk vp vi := by
  refine ⟨h.ge, h.gm, k.below h.bel h.bel.size hB, h.blk.tch k h1, h.m.keep (k.keep bk h.m.lt h2), ?_, ?_⟩
  · rcases h.kp with q | ⟨q1, R, q2, q3⟩
    · exact .inl q
    · exact .inr ⟨q1.tch k hB (fun b hb => hv b (.inl hb)), R, q2.tch k hB (fun b hb => hv b (.inr (.inl hb))) (fun r hr h0 b o e => hi _ _ _ _ h0 (q2.2 r hr).1 b o e), q3⟩
  · rcases h.is with q | ⟨d, q1, q2⟩
    · exact .inl q
    · exact .inr ⟨d, q1.tch k hB (fun b hb => hv b (.inr (.inr hb))), q2⟩
theorem KnF.gr {w0 w w' : World} {gk g bk n : Nat} {T : List Nd} {l : List Int} {vk vp vi : Value} (h : KnF w0 w gk g bk n T l vk vp vi) (k : Gr w w') : KnF w0 w' gk g bk n T l vk vp vi :=
  h.tch (S := fun _ => False) (Tch.gr k) (fun _ q => q.elim) (fun q => q) (fun q => q) (fun _ _ q => q) (fun _ _ _ _ _ _ _ _ _ q => q)
end Go.Proofs.Ythlnoaalhojphaa
